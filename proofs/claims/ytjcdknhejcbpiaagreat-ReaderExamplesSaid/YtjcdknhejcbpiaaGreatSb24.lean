/- Lemmas; no condition. -/
import Derived.Test.YtjcdknhejcbpiaaGreatSb23
set_option maxRecDepth 100000
set_option maxHeartbeats 4000000
namespace Go.Proofs.YtjcdknhejcbpiaaGreat
open Go.RowKit
set_option linter.unusedVariables false
set_option linter.unusedSimpArgs false
set_option linter.unusedSectionVars false
section
variable {B:Nat} {w0 w:World} {R:List Res} {σ:RS} {y:Ly} {n m:Nat}
theorem m_pstep (M:Mem B w0 (σ.L B++R) w) {w':World} {k g:Nat} {q q':Pn} {s':BS} {ph:Int} {b:Bool} {e:Ending} (hk:σ.ps[k]?=some (some (g,q))) (h:EStep B σ.p σ.cb σ.eb g 256 σ.lv σ.f σ.pv σ.sc s' (pnCells σ.eb g q') ph b w e w') :
  ∃lv',Mem B w0 (RS.L B { σ with s:=s',lv:=lv',ps:=σ.ps.set k (some (g,q')) }++R) w':=by
 obtain ⟨_,lv',hE,hb,hc,hf⟩:=h
 refine ⟨lv',?_⟩
 have hP:=m_pn M
 have hB:=m_bk M
 have hne:∀(j:Nat) (y:Nat × Pn),j≠k->σ.ps[j]?=some (some y)->y.1≠g:=fun j y hjk hj=>hP.ne j k y (g,q) hj hk hjk
 have hoff:∀(i:Nat) (t:TypeId) (cs:Array Value),Blk w i t cs->t≠147->t≠152->t≠89->¬FP σ.p σ.cb σ.lv i:=fun i t cs hi h1 h2 h3=>not_fp hB hi h1 h2 h3
 have hrow:(σ.ps.map (Option.map Prod.fst)).set k (Option.map Prod.fst (some (g,q')))=σ.ps.map (Option.map Prod.fst):=by
  apply List.ext_getElem?
  intro i
  rw [List.getElem?_set]
  split
  ·rename_i e
   subst e
   rw [List.length_map,if_pos (List.getElem?_eq_some_iff.1 hk).1,List.getElem?_map,hk]
   rfl
  ·rfl
 have t:=pins_set (o:=some (g,q')) hP hc (k:=k) (by
  rw [hrow]
  exact hc.blk hP.b (fun e=>by
   rcases e with e | e
   ·exact hoff _ _ _ hP.b (by decide) (by decide) (by decide) e
   ·exact Blk.ne hP.b (hP.s k _ hk) (by decide) e)) (fun x hx=>by
  injection hx with hx
  subst hx
  exact ⟨hb,hne⟩) (fun j y hjk hj e=>by
   rcases e with e | e
   ·exact hoff _ _ _ (hP.s j y hj) (by decide) (by decide) (by decide) e
   ·exact hne j y hjk hj e)
 exact M.upd2 (i:=3) (j:=5) (bankR B σ.p σ.cb lv' s'.vs s'.lg) (pinsR σ.eb σ.pb (σ.ps.set k (some (g,q')))) rfl rfl (by decide) hc (fun i _ e=>by
  rcases e with e | e
  ·exact .inl e
  ·exact .inr (.inr ⟨k,(g,q),hk,e⟩)) hE.b t (fun i e=>by
  rcases e with e | e | e
  ·exact .inl (.inl e)
  ·exact .inl (.inr (.inl e))
  ·rcases hf with hf | hf
   ·rw [hf] at e;exact .inl (.inr (.inr e))
   ·exact .inr (hf i e)) (fun i e=>by
  rcases e with e | ⟨j,x,hj,e⟩
  ·exact .inl e
  ·rcases sset hj with ⟨_,e2⟩ | ⟨_,hj⟩
   ·injection e2 with e2
    subst e2
    exact .inr ⟨k,(g,q),hk,e⟩
   ·exact .inr ⟨j,x,hj,e⟩)
theorem load9_m (M:Mem B w0 (σ.L B++R) w) (O:σ.Ok y n m) {k pg:Nat} {q:Pn} (hpin:σ.r.pin=.pointer (some ⟨pg,0,none⟩)) (hk:σ.ps[k]?=some (some (pg,q))) (ht:q.t=σ.r.cl) (hph:q.ph=9) :
  Calls Tryz.prog 101 #[.pointer (some ⟨σ.g,0,none⟩)] w fun e w'=>e=.returned (.int .u64 0)/\∃lv',Mem B w0 (RS.L B { σ with s:=σ.s.load σ.r.cl σ.f.ep,lv:=lv',ps:=σ.ps.set k (some (pg,{ q with seen:=lk σ.s.vs σ.f.ep,ph:=10 })),r:={ σ.r with ph:=10,dv:=loadF σ.g } }++R) w':=by
 obtain ⟨qt,qs,qe,qp⟩:=q
 simp only at ht hph
 subst ht hph
 have HM:=hid M
 have HO:=hid O
 have HK:=hid hk
 have HPI:=hid hpin
 have hkl:k < σ.ps.length:=(List.getElem?_eq_some_iff.1 hk).1
 have HKL:=hid hkl
 have a28:w.cell? ⟨σ.g,28,none⟩=some (.pointer (some ⟨pg,0,none⟩)):=((m_rd M).cell 28).trans (by rw [<-hpin];rfl)
 clear M O hpin hk hkl
 go_enter Tryz.func101,Tryz.ntmps101
 go_wp2_with fail
 refine (pn_step9 B σ.p σ.cb σ.eb pg σ.lv σ.s σ.f σ.pv σ.sc _ w (m_ep HM.out HO.out.ed) ((m_pn HM.out).s k _ HK.out) HO.out.cl (by have:=HO.out.lg;omega) HM.out.bz rfl).mono ?_
 intro e w2 hst
 obtain ⟨lv',hM2⟩:=m_pstep HM.out HK.out hst
 obtain ⟨rfl,_⟩:=hst
 have M2:=hid hM2
 clear hM2 a28
 have a28:w2.cell? ⟨σ.g,28,none⟩=some (.pointer (some ⟨pg,0,none⟩)):=((m_rd M2.out).cell 28).trans (by rw [<-HPI.out];rfl)
 have HQ:=hid ((m_pn M2.out).s k (pg,⟨σ.r.cl,qs,lk σ.s.vs σ.f.ep,10⟩) (by simp only;rw [List.getElem?_set_self HKL.out]))
 go_wp2_with fail
 refine (pn_next σ.eb pg w2 ⟨σ.r.cl,qs,lk σ.s.vs σ.f.ep,10⟩ HQ.out).mono ?_
 rintro e w' ⟨rfl,rfl⟩
 go_wp2_with fail
 have HR2:=m_rd M2.out
 refine (rthen_any σ.g σ.r 10 _ _ _ w2 HR2).mono ?_
 intro e w3 hset
 have M3:=hid (m_set M2.out hset rfl rfl)
 obtain ⟨rfl,_,_⟩:=hset
 go_wp2_with fail
 go_ret
 exact ⟨rfl,lv',M3.out⟩
theorem load10_m (M:Mem B w0 (σ.L B++R) w) (O:σ.Ok y n m) {k pg:Nat} {q:Pn} (hpin:σ.r.pin=.pointer (some ⟨pg,0,none⟩)) (hk:σ.ps[k]?=some (some (pg,q))) (ht:q.t=σ.r.cl) (hph:q.ph=10) (hs:q.slot < σ.f.n) :
  Calls Tryz.prog 101 #[.pointer (some ⟨σ.g,0,none⟩)] w fun e w'=>e=.returned (.int .u64 0)/\∃lv',Mem B w0 (RS.L B { σ with s:=σ.s.store σ.r.cl (σ.f.slot q.slot:Nat) (w64 (q.seen+1)),lv:=lv',ps:=σ.ps.set k (some (pg,{ q with ph:=0 })),r:={ σ.r with ph:=11,dv:=rootF σ.g } }++R) w':=by
 obtain ⟨qt,qs,qe,qp⟩:=q
 simp only at ht hph hs
 subst ht hph
 have HM:=hid M
 have HO:=hid O
 have HK:=hid hk
 have HPI:=hid hpin
 have hkl:k < σ.ps.length:=(List.getElem?_eq_some_iff.1 hk).1
 have HKL:=hid hkl
 have a28:w.cell? ⟨σ.g,28,none⟩=some (.pointer (some ⟨pg,0,none⟩)):=((m_rd M).cell 28).trans (by rw [<-hpin];rfl)
 clear M O hpin hk hkl
 go_enter Tryz.func101,Tryz.ntmps101
 go_wp2_with fail
 refine (pn_step10 B σ.p σ.cb σ.eb pg σ.lv σ.s σ.f σ.pv σ.sc _ w (m_ep HM.out HO.out.ed) ((m_pn HM.out).s k _ HK.out) HO.out.cl (by have:=HO.out.lg;omega) HM.out.bz rfl hs).mono ?_
 intro e w2 hst
 obtain ⟨lv',hM2⟩:=m_pstep HM.out HK.out hst
 obtain ⟨rfl,_⟩:=hst
 have M2:=hid hM2
 clear hM2 a28
 go_wp2_with fail
 have HR2:=m_rd M2.out
 refine (rthen_any σ.g σ.r 11 _ _ _ w2 HR2).mono ?_
 intro e w3 hset
 have M3:=hid (m_set M2.out hset rfl rfl)
 obtain ⟨rfl,_,_⟩:=hset
 go_wp2_with fail
 go_ret
 exact ⟨rfl,lv',M3.out⟩
end
section
variable {B:Nat} {w0 w:World} {R:List Res} {σ:RS} {y:Ly} {n m:Nat}
theorem m_unpin (M:Mem B w0 (σ.L B++R) w) {w':World} {k:Nat} {s':BS} {e:Ending} (h:Unpinned B σ.p σ.cb σ.eb σ.pb σ.lv s' σ.f σ.pv σ.sc (σ.ps.map (Option.map Prod.fst)) k w e w') :
  ∃lv',Mem B w0 (RS.L B { σ with s:=s',lv:=lv',ps:=σ.ps.set k none }++R) w':=by
 obtain ⟨_,lv',hE,hb,hc,hf⟩:=h
 refine ⟨lv',?_⟩
 have hP:=m_pn M
 have hB:=m_bk M
 have t:=pins_set (o:=none) hP hc (k:=k) hb (fun x hx=>by cases hx) (fun j y hjk hj e=>by
  rcases e with e | e
  ·exact not_fp hB (hP.s j y hj) (by decide) (by decide) (by decide) e
  ·exact Blk.ne (hP.s j y hj) hP.b (by decide) e)
 exact M.upd2 (i:=3) (j:=5) (bankR B σ.p σ.cb lv' s'.vs s'.lg) (pinsR σ.eb σ.pb (σ.ps.set k none)) rfl rfl (by decide) hc (fun i _ e=>by
  rcases e with e | e
  ·exact .inl e
  ·exact .inr (.inl e)) hE.b t (fun i e=>by
  rcases e with e | e | e
  ·exact .inl (.inl e)
  ·exact .inl (.inr (.inl e))
  ·rcases hf with hf | hf
   ·rw [hf] at e;exact .inl (.inr (.inr e))
   ·exact .inr (hf i e)) (fun i e=>by
  rcases e with e | ⟨j,x,hj,e⟩
  ·exact .inl e
  ·rcases sset hj with ⟨_,e2⟩ | ⟨_,hj⟩
   ·cases e2
   ·exact .inr ⟨j,x,hj,e⟩)
theorem m_sdel (M:Mem B w0 (σ.L B++R) w) (k:Nat):Mem B w0 (RS.L B { σ with sl:=σ.sl.set k none }++R) (w.setCell ⟨σ.lb,k,none⟩ (.pointer none)):=
 M.upd (i:=1) (slotsR B σ.lb (σ.sl.set k none)) rfl ((Ch.refl (fun b=>b=σ.lb) w).set (fun _=>rfl) _) (fun _ _ e=>.inl e) (slots_del (m_sl M)) (fun i e=>by
  rcases e with e | ⟨j,s,hj,e⟩
  ·exact .inl (.inl e)
  ·rcases sset hj with ⟨_,e2⟩ | ⟨_,hj⟩
   ·cases e2
   ·exact .inl (.inr ⟨j,s,hj,e⟩))
theorem release_m (M:Mem B w0 (σ.L B++R) w) (O:σ.Ok y n m) {k pg:Nat} {q:Pn} {so:Option Snp} (hop:σ.r.op.sl=(k:Int)) (hkn:k < n) (hs:σ.sl[k]?=some so) (hk:σ.ps[m+k]?=some (some (pg,q))) (hq:q.ph=0) :
  Calls Tryz.prog 68 #[.pointer (some ⟨σ.g,0,none⟩)] w fun e w'=>e=.returned (.int .u64 0)/\∃lv',Mem B w0 (RS.L B { σ with s:=σ.s.store σ.r.cl (σ.f.slot (m+k):Nat) 0,lv:=lv',ps:=σ.ps.set (m+k) none,sl:=σ.sl.set k none,r:=σ.r.fin RsV.zero,tx:=[] }++R) w':=by
 have HM:=hid M
 have HO:=hid O
 have HK:=hid hk
 have HQ:=hid hq
 have HS:=hid hs
 have hn8:=O.n8
 have hmn:=O.mn
 have hf64:=O.ed.n
 have hck:ckerr σ.f σ.r.cl ((m+k:Nat):Int)=0:=by
  unfold ckerr
  rw [if_neg (by have:=O.cl;omega),if_neg (by omega)]
 have HCK:=hid hck
 have a0:w.cell? ⟨σ.g,0,none⟩=some (.pointer (some ⟨σ.r.sb,0,none⟩)):=(m_rd M).cell 0
 have a1:w.cell? ⟨σ.g,1,none⟩=some (.int .i64 σ.r.cl):=(m_rd M).cell 1
 have a4:w.cell? ⟨σ.g,4,none⟩=some (.int .i64 (k:Int)):=((m_rd M).cell 4).trans (by rw [<-hop];rfl)
 have HOP:=hid hop
 clear M O hk hq hs hck hop
 go_enter Tryz.func68,Tryz.ntmps68
 go_wp2_with fail
 refine Mix.rt [0,0,0,0,0,0,0,0,0,0,0,0,0,0,0,0,2] [0,1,2,3,4,5,6,7,8,9,10,11,12,13,14,15,16] ?_
 repeat ((first | refine Mix.zq ?_ | refine Mix.zp ?_ | refine Mix.zs ?_);go_big_quiet_step (fail);refine wpQuiet_nil ?_)
 (refine Mix.zq ?_;go_big_quiet_step ((go_at_call 97;exact sepoch_q w (m_st HM.out) HO.out.stf _));refine wpQuiet_nil ?_)
 repeat ((first | refine Mix.zq ?_ | refine Mix.zp ?_ | refine Mix.zs ?_);go_big_quiet_step (fail);refine wpQuiet_nil ?_)
 (refine Mix.zq ?_;go_big_quiet_step ((go_at_call 99;exact held_q σ.g σ.lb n m σ.r k w (m_rd HM.out) HO.out.sl HO.out.hm (by omega) (by omega) _));refine wpQuiet_nil ?_)
 repeat ((first | refine Mix.zq ?_ | refine Mix.zp ?_ | refine Mix.zs ?_);go_big_quiet_step (fail);refine wpQuiet_nil ?_)
 refine Mix.ze fun W2 hW2=>?_
 obtain ⟨k2,rfl⟩:=hW2
 go_wp2_with fail
 have M2:=hid (HM.out.drewN k2)
 have hpin:=(m_pn M2.out).s (m+k) (pg,q) HK.out
 have HPI:=hid hpin
 clear hpin
 refine (unpin_ok B σ.p σ.cb σ.eb σ.pb σ.lv σ.s σ.f σ.sc (σ.ps.map (Option.map Prod.fst)) (w.drewN k2) (m_ep M2.out HO.out.ed) (m_pn M2.out).b (by rw [List.length_map];exact HO.out.pl) σ.r.cl (by have:=HO.out.lg;omega) M2.out.bz (m+k) HCK.out pg (by rw [List.getElem?_map,HK.out];rfl) q HPI.out HQ.out).mono ?_
 intro e w3 hun
 obtain ⟨lv',hM3⟩:=m_unpin M2.out hun
 obtain ⟨rfl,_⟩:=hun
 have M3:=hid hM3
 clear hM3 a0 a1 a4
 go_wp2_with fail
 intro k4
 refine at_world fun W5 hW5=>?_
 have M5:=hid (show Mem B w0 (RS.L B { σ with s:=σ.s.store σ.r.cl (σ.f.slot (m+k):Nat) 0,lv:=lv',ps:=σ.ps.set (m+k) none }++R) W5 from by rw [hW5];exact M3.out.drewN k4)
 clear hW5
 have a2:W5.cell? ⟨σ.g,2,none⟩=some (.slice (some ⟨σ.lb,0,none⟩) n n):=((m_rd M5.out).cell 2).trans (by rw [<-HO.out.sl];rfl)
 have a4:W5.cell? ⟨σ.g,4,none⟩=some (.int .i64 (k:Int)):=((m_rd M5.out).cell 4).trans (by rw [<-HOP.out];rfl)
 have l1:W5.cell? ⟨σ.lb,k,none⟩=some (pinV (sptr so)):=((m_sl M5.out).b.cell k).trans (pinsA_at (by rw [List.getElem?_map,HS.out];rfl))
 have l2:=(m_sl M5.out).b.free k
 obtain ⟨d1,d2⟩:=dc_ltT (a:=k) (b:=n) (by omega)
 go_wp2_with fail
 refine Mix.rt [0,0,0,0,0,0,0,0,0,0,2] [0,1,2,3,4,5,6,7,8,9,10] ?_
 repeat ((first | refine Mix.zq ?_ | refine Mix.zp ?_ | refine Mix.zs ?_);go_big_quiet_step (fail);refine wpQuiet_nil ?_)
 refine Mix.ze fun W6 hW6=>?_
 obtain ⟨k6,rfl⟩:=hW6
 go_wp2_with fail
 intro k7
 refine at_world fun W8 hW8=>?_
 have M8:=hid (show Mem B w0 (RS.L B { σ with s:=σ.s.store σ.r.cl (σ.f.slot (m+k):Nat) 0,lv:=lv',ps:=σ.ps.set (m+k) none,sl:=σ.sl.set k none }++R) W8 from by rw [hW8];exact (m_sdel (M5.out.drewN k6) k).drewN k7)
 clear hW8 a2 a4 l1 l2
 go_wp2_with fail
 have HR8:=m_rd M8.out
 refine (rend_any σ.g σ.r RsV.zero W8 HR8).mono ?_
 intro e w9 hset
 have M9:=hid (m_fin M8.out hset rfl)
 obtain ⟨rfl,_,_⟩:=hset
 go_wp2_with fail
 go_ret
 exact ⟨rfl,lv',M9.out⟩
end
theorem flat_getH {α:Type} (f:α->List Value) (c:Nat) (hf:∀r,(f r).length=c):∀(l:List α) (i:Nat) (r:α),l[i]?=some r->∀(j:Nat) (v:Value),(f r)[j]?=some v->(l.flatMap f)[i * c+j]?=some v
 | [],i,r,h,_,_,_=>by simp at h
 | x::l,0,r,h,j,v,hv=>by
  simp at h
  subst h
  rw [List.flatMap_cons,Nat.zero_mul,Nat.zero_add,List.getElem?_append_left (List.getElem?_eq_some_iff.1 hv).1]
  exact hv
 | x::l,i+1,r,h,j,v,hv=>by
  rw [List.flatMap_cons,List.getElem?_append_right (by rw [hf,Nat.succ_mul];omega),hf,show (i+1) * c+j - c=i * c+j by rw [Nat.succ_mul];omega]
  exact flat_getH f c hf l i r (by simpa using h) j v hv
section
variable {B:Nat} {w0 w:World} {R:List Res} {σ:RS} {y:Ly} {n m:Nat}
theorem revision_m (M:Mem B w0 (σ.L B++R) w) (h23:σ.cs[23]?=some σ.rv) {ix:Nat} {r:RvS} (hr:σ.rs[ix]?=some r) (hl:σ.rs.length < 1000) (h1:r.ms.length < 1000) (h2:r.ds.length < 1000) :
  Calls Tryz.prog 37 #[.pointer (some ⟨σ.r.sb,0,none⟩),.int .i64 ix] w fun e w'=>∃mv dv,e=.returned (.tuple #[.agg (rvA r.x mv dv),.int .i64 0])/\w'.ownsRow w.heap.size 160 3 mv r.ms.length (mkCells r.ms)/\w'.ownsRow w.heap.size 217 3 dv r.ds.length (pcCells r.ds)/\Ch (fun _=>False) w w':=by
 have hR:=m_rv M
 have hlt:ix < σ.rs.length:=(List.getElem?_eq_some_iff.1 hr).1
 obtain ⟨A,cap,hrv,_⟩:=own_slice hR.b
 obtain ⟨hm,hd⟩:=hR.s r (List.mem_of_getElem? hr)
 obtain ⟨am,c1,hmv,_,zm,im⟩:=own_mk hm
 obtain ⟨ad,c2,hdv,_,zd,id'⟩:=own_pc hd
 have hb:=hR.b
 rw [hrv] at hb h23
 exact revision_any B σ.r.sb σ.cs A cap σ.rs.length ix (σ.rs.flatMap RvS.cells) r.x am ad r.ms.length c1 r.ds.length c2 r.ms r.ds w (m_st M) h23 hb hlt hl (fun j v hv=>flat_getH RvS.cells 8 (fun _=>rfl) σ.rs ix r hr j v (by unfold RvS.cells;rw [hmv,hdv];exact hv)) im id' zm zd h1 h2
theorem m_sadd (M:Mem B w0 (σ.L B++R) w) {w':World} {k:Nat} {s:Snp} (c:Ch (fun _=>False) w w') (hk:σ.sl[k]?=some none) (hs:SnpM B w' s) (hg:∀i,s.foot i->w.heap.size<=i):Mem B w0 (RS.L B { σ with sl:=σ.sl.set k (some s) }++R) (w'.setCell ⟨σ.lb,k,none⟩ (.pointer (some ⟨s.g,0,none⟩))):=by
 have M2:=M.keep c
 have hS:=m_sl M
 refine M.upd (i:=1) (slotsR B σ.lb (σ.sl.set k (some s))) rfl ((c.mono (fun _ _ e=>e.elim)).set (fp:=fun b=>b=σ.lb) (fun _=>rfl) _) (fun _ _ e=>.inl e) (slots_add (m_sl M2) hs hk (fun j t hj e=>by
  have h1:=(hS.s j t hj).b.lt
  have h2:=hg s.g (.inl rfl)
  omega)) (fun i e=>?_)
 rcases e with e | ⟨j,t,hj,e⟩
 ·exact .inl (.inl e)
 ·rcases sset hj with ⟨_,e2⟩ | ⟨_,hj⟩
  ·injection e2 with e2
   subst e2
   exact .inr (hg i e)
  ·exact .inl (.inr ⟨j,t,hj,e⟩)
theorem root_m (M:Mem B w0 (σ.L B++R) w) (O:σ.Ok y n m) {k ix:Nat} {r:RvS} (hslot:σ.r.slot=(k:Int)) (hkn:k < n) (hs:σ.sl[k]?=some none) (hix:lk σ.s.vs 1=(ix:Int)) (hr:σ.rs[ix]?=some r) (hl:σ.rs.length < 1000) (h1:r.ms.length < 1000) (h2:r.ds.length < 1000) :
  Calls Tryz.prog 128 #[.pointer (some ⟨σ.g,0,none⟩)] w fun e w'=>e=.returned (.int .u64 0)/\∃lv' s,s.x=r.x/\s.ms=r.ms/\s.ds=r.ds/\s.ix=(ix:Int)/\s.cu=0/\Mem B w0 (RS.L B { σ with s:=σ.s.load σ.r.cl 1,lv:=lv',sl:=σ.sl.set k (some s),r:=σ.r.fin { RsV.zero with sl:=(k:Int),rev:=r.x.num },tx:=[] }++R) w':=by
 have HM:=hid M
 have HO:=hid O
 have HS:=hid hs
 have HIX:=hid hix
 have HR:=hid hr
 have HL:=hid hl
 have H1:=hid h1
 have H2:=hid h2
 have HSL:=hid hslot
 have hst:=hid (m_st M)
 have a0:w.cell? ⟨σ.g,0,none⟩=some (.pointer (some ⟨σ.r.sb,0,none⟩)):=(m_rd M).cell 0
 have a1:w.cell? ⟨σ.g,1,none⟩=some (.int .i64 σ.r.cl):=(m_rd M).cell 1
 have lg:=(m_rd M).lt
 have hixl:ix < 1000:=by have:=(List.getElem?_eq_some_iff.1 hr).1;omega
 clear M O hs hix hr hl h1 h2 hslot
 go_enter Tryz.func128,Tryz.ntmps128
 go_wp2_with fail
 obtain ⟨S,hS⟩:∃S:Nat->Prop,∀k,S k↔k=σ.g:=⟨_,fun _=>Iff.rfl⟩
 have hSp:Mix.Has S σ.g:=(hS _).2 rfl
 have HSS:=hid hS
 clear hS
 refine Mix.rg S [0,0,0,0,0,1,1,1,4,0,0,0,0,3,0,2,0,0,0,0,0] [0,1,2,3,4,5,6,7,8,9,10,11,12,13,14,15,16,17,18,19,20] ?_
 repeat ((first | refine Mix.zq ?_ | refine Mix.zp ?_ | refine Mix.zs ?_);go_big_quiet_step (fail);refine wpQuiet_nil ?_)
 (refine Mix.zq ?_;go_big_quiet_step ((go_at_call 26;exact sbank_q w hst.out HO.out.stf _));refine wpQuiet_nil ?_)
 repeat ((first | refine Mix.zq ?_ | refine Mix.zp ?_ | refine Mix.zs ?_);go_big_quiet_step (fail);refine wpQuiet_nil ?_)
 refine Mix.za fun W2 hW2=>?_
 obtain ⟨k2,rfl⟩:=hW2
 go_wp2_with fail
 refine (slayout_any (w.drewN k2) (hst.out.drewN k2) HO.out.stf).mono ?_
 rintro e w3 ⟨rfl,hc⟩
 have c3:Ch (fun _=>False) w w3:=hc.ofDrewN
 have M3:=hid (HM.out.keep c3)
 have hkeep:Mix.Keep S w w3:=fun k hk=>by rw [(HSS.out k).1 hk];exact c3.block _ lg id
 clear hc c3
 simp only [Ly.arr]
 go_wp2_with fail
 refine ⟨hkeep,?_⟩
 clear hkeep
 have hfd:∀W:World,(Instr.field 83 (.agg #[.int .i64 y.l0,.int .i64 y.l1,.int .i64 y.l2,.int .i64 y.l3,.int .i64 y.l4,.int .i64 y.l5,.int .i64 y.l6,.int .i64 y.l7,.int .i64 y.l8,.int .i64 y.l9]) 1).run Tryz.prog W=.ok (.int .i64 y.l1) W:=fun W=>by kernel_rfl
 repeat ((first | refine Mix.zq ?_ | refine Mix.zp ?_ | refine Mix.zs ?_);go_big_quiet_step (fail);refine wpQuiet_nil ?_)
 refine Mix.ze fun W4 hW4=>?_
 obtain ⟨k4,rfl⟩:=hW4
 go_wp2_with fail
 rw [HO.out.y1]
 refine (load_ok B σ.p σ.cb σ.lv σ.s σ.r.cl 1 (w3.drewN k4) (m_bk (M3.out.drewN k4)) ⟨HO.out.cl.1,HO.out.cl.2,by decide,by have:=HO.out.vs;omega⟩ (by have:=HO.out.lg;omega) (M3.out.drewN k4).bz).mono ?_
 rintro e w5 ⟨rfl,hbs⟩
 obtain ⟨lv',hM5⟩:=m_bank (M3.out.drewN k4) hbs
 have M5:=hid hM5
 rw [show lk σ.s.vs (1:Int).toNat=(ix:Int) from HIX.out]
 clear hbs hM5 a0 a1 hfd
 go_wp2_with fail
 repeat ((first | refine Mix.zq ?_ | refine Mix.zp ?_ | refine Mix.zs ?_);go_big_quiet_step (fail);refine wpQuiet_nil ?_)
 intro k5
 refine at_world fun W6 hW6=>?_
 have M6:=hid (show Mem B w0 (RS.L B { σ with s:=σ.s.load σ.r.cl 1,lv:=lv' }++R) W6 from by rw [hW6];exact M5.out.drewN k5)
 clear hW6
 have a0:W6.cell? ⟨σ.g,0,none⟩=some (.pointer (some ⟨σ.r.sb,0,none⟩)):=(m_rd M6.out).cell 0
 go_wp2_with fail
 have hrev:=revision_m M6.out HO.out.h23 HR.out HL.out H1.out H2.out
 refine hrev.mono ?_
 rintro e w7 ⟨mv,dv,rfl,ho1,ho2,hc⟩
 obtain ⟨mA,mc,hmv,_⟩:=own_slice ho1
 obtain ⟨dA,dc,hdv,_⟩:=own_slice ho2
 subst hmv
 subst hdv
 obtain ⟨nm,hnm⟩:∃x,x=r.ms.length:=⟨_,rfl⟩
 obtain ⟨nd,hnd⟩:∃x,x=r.ds.length:=⟨_,rfl⟩
 rw [<-hnm] at ho1 |-
 rw [<-hnd] at ho2 |-
 have HNM:=hid hnm
 have HND:=hid hnd
 have C7:=hid hc
 have O1:=hid ho1
 have O2:=hid ho2
 clear hrev ho1 ho2 hc hnm hnd a0
 simp only [rvA]
 go_wp2_with fail
 obtain ⟨S2,hS2⟩:∃S:Nat->Prop,∀k,S k↔k=σ.g\/k=w7.heap.size:=⟨_,fun _=>Iff.rfl⟩
 have hSp2:Mix.Has S2 σ.g:=(hS2 _).2 (.inl rfl)
 have hSp3:Mix.Has S2 w7.heap.size:=(hS2 _).2 (.inr rfl)
 have HSS2:=hid hS2
 clear hS2
 refine Mix.rg S2 [1,1,1,4,1,1,1,4,0,0,0,0,3,0,2] [0,1,2,3,4,5,6,7,8,9,10,11,12,13,14] ?_
 refine Mix.mix_world fun W8 hW8=>?_
 have C8:=hid (show Ch (fun _=>False) W6 W8 from by rw [hW8];exact C7.out.alloc _)
 have V8:=hid (show Blk W8 w7.heap.size 104 #[.int .i64 r.x.num,.int .u64 r.x.at',.int .i64 r.x.h,.int .i64 r.x.b,.int .i64 r.x.r,.int .i64 r.x.l,.slice mA nm mc,.slice dA nd dc] from by rw [hW8];exact Blk.new w7 _ _)
 have O1b:=hid (show W8.ownsRow W6.heap.size 160 3 (.slice mA nm mc) nm (mkCells r.ms) from by rw [hW8];exact ((Ch.refl (fun _=>False) w7).alloc _).own O1.out (fun _ _=>id))
 have O2b:=hid (show W8.ownsRow W6.heap.size 217 3 (.slice dA nd dc) nd (pcCells r.ds) from by rw [hW8];exact ((Ch.refl (fun _=>False) w7).alloc _).own O2.out (fun _ _=>id))
 clear hW8
 have M8:=hid (M6.out.keep C8.out)
 have a2:W8.cell? ⟨σ.g,2,none⟩=some (.slice (some ⟨σ.lb,0,none⟩) n n):=((m_rd M8.out).cell 2).trans (by rw [<-HO.out.sl];rfl)
 have a27:W8.cell? ⟨σ.g,27,none⟩=some (.int .i64 (k:Int)):=((m_rd M8.out).cell 27).trans (by rw [<-HSL.out];rfl)
 obtain ⟨v0,v1,v2,v3,v4,v5,v6,v7⟩:=V8.out.c8
 obtain ⟨d1,d2⟩:=dc_ltT (a:=k) (b:=n) (by omega)
 repeat ((first | refine Mix.zq ?_ | refine Mix.zp ?_ | refine Mix.zs ?_);go_big_quiet_step (fail);refine wpQuiet_nil ?_)
 refine Mix.za fun W9 hW9=>?_
 obtain ⟨k9,rfl⟩:=hW9
 go_wp2_with fail
 refine ⟨fun j hj=>Below.heap_alloc _ _ j (by rcases (HSS2.out j).1 hj with rfl | rfl;exact (m_rd M8.out).lt;exact V8.out.lt),Mix.mix_world fun W10 hW10=>?_⟩
 have C10:=hid (show Ch (fun _=>False) W6 W10 from by rw [hW10];first | exact (C8.out.drewN k9).alloc _ | exact C8.out.trans (Ch.push rfl rfl rfl rfl) (fun _ _ h=>h))
 have CC:=hid (show Ch (fun _=>False) W8 W10 from by rw [hW10];first | exact ((Ch.refl _ W8).drewN k9).alloc _ | exact Ch.push rfl rfl rfl rfl)
 obtain ⟨sg,hsg⟩:∃x,x=W8.heap.size:=⟨_,rfl⟩
 have X10:=hid (show Blk W10 sg 144 #[.int .i64 r.x.num,.int .u64 r.x.at',.int .i64 r.x.h,.int .i64 r.x.b,.int .i64 r.x.r,.int .i64 r.x.l,.slice mA nm mc,.slice dA nd dc,.int .i64 (ix:Int),.int .i64 0] from by rw [hW10,hsg];first | exact Blk.new (W8.drewN k9) _ _ | exact Blk.push rfl)
 first | rw [show (W8.drewN k9).heap.size=sg from hsg.symm] | rw [show W8.heap.size=sg from hsg.symm]
 have hsg6:=hid (show W6.heap.size<=sg from by rw [hsg];exact C8.out.size)
 have V10:=hid (CC.out.blk V8.out id)
 have O1c:=hid (CC.out.own O1b.out (fun _ _=>id))
 have O2c:=hid (CC.out.own O2b.out (fun _ _=>id))
 have M10:=hid (M6.out.keep C10.out)
 have l1:W10.cell? ⟨σ.lb,k,none⟩=some (.pointer none):=((m_sl M10.out).b.cell k).trans (pinsA_at (o:=none) (by rw [List.getElem?_map,HS.out];rfl))
 have l2:=(m_sl M10.out).b.free k
 clear hW10 hsg
 repeat ((first | refine Mix.zq ?_ | refine Mix.zp ?_ | refine Mix.zs ?_);go_big_quiet_step (fail);refine wpQuiet_nil ?_)
 refine Mix.ze fun W11 hW11=>?_
 obtain ⟨k11,rfl⟩:=hW11
 go_wp2_with fail
 intro k12
 refine at_world fun W13 hW13=>?_
 have hsnp:SnpM B (W10.drewN k11) ⟨sg,r.x,.slice mA nm mc,r.ms,.slice dA nd dc,r.ds,(ix:Int),0⟩:=⟨X10.out.drewN k11,by
  show (W10.drewN k11).ownsRow B _ 3 _ r.ms.length _
  rw [<-HNM.out]
  exact own_mono ((Ch.refl (fun _=>False) W10).drewN k11 |>.own O1c.out (fun _ _=>id)) M6.out.bz,by
  show (W10.drewN k11).ownsRow B _ 3 _ r.ds.length _
  rw [<-HND.out]
  exact own_mono ((Ch.refl (fun _=>False) W10).drewN k11 |>.own O2c.out (fun _ _=>id)) M6.out.bz⟩
 have M13:=hid (show Mem B w0 (RS.L B { σ with s:=σ.s.load σ.r.cl 1,lv:=lv',sl:=σ.sl.set k (some ⟨sg,r.x,.slice mA nm mc,r.ms,.slice dA nd dc,r.ds,(ix:Int),0⟩) }++R) W13 from by
  rw [hW13]
  exact (m_sadd M6.out (C10.out.drewN k11) HS.out hsnp (fun i e=>by
   rcases e with e | e | e
   ·rw [e];exact hsg6.out
   ·exact (O1c.out.lt i e).1
   ·exact (O2c.out.lt i e).1)).drewN k12)
 have V13:=hid (show Blk W13 w7.heap.size 104 #[.int .i64 r.x.num,.int .u64 r.x.at',.int .i64 r.x.h,.int .i64 r.x.b,.int .i64 r.x.r,.int .i64 r.x.l,.slice mA nm mc,.slice dA nd dc] from by
  rw [hW13]
  exact (((V10.out.drewN k11).far (Blk.ne V10.out (m_sl M10.out).b (by decide)) _).drewN k12))
 clear hW13 hsnp a2 a27 l1 l2 v0 v1 v2 v3 v4 v5 v6 v7
 have a27:W13.cell? ⟨σ.g,27,none⟩=some (.int .i64 (k:Int)):=((m_rd M13.out).cell 27).trans (by rw [<-HSL.out];rfl)
 have v0:W13.cell? ⟨w7.heap.size,0,none⟩=some (.int .i64 r.x.num):=V13.out.cell 0
 have HR13:=hid (m_rd M13.out)
 go_wp2_with fail
 refine Mix.rt [0,0,0,0,0,0,0,0,2,0] [0,1,2,3,4,5,6,7,8,9] ?_
 repeat ((first | refine Mix.zq ?_ | refine Mix.zp ?_ | refine Mix.zs ?_);go_big_quiet_step (fail);refine wpQuiet_nil ?_)
 refine Mix.ze fun W14 hW14=>?_
 obtain ⟨k14,rfl⟩:=hW14
 go_wp2_with fail
 refine (rend_any σ.g σ.r { RsV.zero with sl:=(k:Int),rev:=r.x.num } (W13.drewN k14) (HR13.out.drewN k14)).mono ?_
 intro e w15 hset
 have M15:=hid (m_fin (M13.out.drewN k14) hset rfl)
 obtain ⟨rfl,_,_⟩:=hset
 go_wp2_with fail
 repeat ((first | refine Mix.zq ?_ | refine Mix.zp ?_ | refine Mix.zs ?_);go_big_quiet_step (fail);refine wpQuiet_nil ?_)
 intro k16
 go_wp2_with fail
 go_ret
 exact ⟨rfl,lv',⟨sg,r.x,.slice mA nm mc,r.ms,.slice dA nd dc,r.ds,(ix:Int),0⟩,rfl,rfl,rfl,rfl,rfl,M15.out.drewN k16⟩
end
def stepV (cl ph:Int) (acc:Bool) (hv:Int) (took done:Bool):Value:=.agg #[.int .i64 cl,.int .u8 ph,.bool acc,.int .u64 hv,.bool took,.bool done]
theorem mem_drop {B:Nat} {w0 w:World} {L X:List Res} (h:Mem B w0 (L++X) w):Mem B w0 L w:=by
 have:=h.take L.length
 rwa [List.take_left] at this
theorem mem_front2 {B:Nat} {w0 w w':World} {L:List Res} (h:Mem B w0 L w) (c:Ch (fun _=>False) w w') {r z:Nat} {t u:TypeId} {cs ds:Array Value} (hr:Blk w' r t cs) (hz:Blk w' z u ds) (lr:w.heap.size<=r) (lz:w.heap.size<=z) (hne:r≠z):Mem B w0 ([blkR r t cs,blkR z u ds]++L) w':=by
 have h1:=h.keep c
 have low:∀(i:Nat) (s:Res),L[i]?=some s->∀k,s.foot k->k < w.heap.size:=fun i s hi k hk=>s.lt (h.each i s hi) k hk
 have h2:=h1.addK (blkR r t cs) hr (fun i s hi k hk e=>by have:=low i s hi k hk;have e:k=r:=e;omega) (fun k e=>by have e:k=r:=e;have:=h.bz;omega)
 have h3:=h2.addK (blkR z u ds) hz (fun i s hi k hk e=>by
  have e:k=z:=e
  rcases mem_app hi with ⟨_,rfl⟩ | hi
  ·have hk:k=r:=hk
   omega
  ·have:=low i s hi k hk
   omega) (fun k e=>by have e:k=z:=e;have:=h.bz;omega)
 rw [List.append_assoc] at h3
 exact h3.perm List.perm_append_comm
section
variable {B:Nat} {w0 w:World} {R:List Res} {σ:RS} {y:Ly} {n m:Nat}
theorem step_m (M:Mem B w0 (σ.L B++R) w) (O:σ.Ok y n m) (hb:σ.r.busy=true) (F:FuncId) (hdv:σ.r.dv=.func (.func F) #[.pointer (some ⟨σ.g,0,none⟩)] #[]) (hin:∀W:World,(callFunc F #[.pointer (some ⟨σ.g,0,none⟩)]).run Tryz.prog W=.ok (.enter F #[.pointer (some ⟨σ.g,0,none⟩)]) W)
  (P:Int->RS->Prop) (hP:∀hv σ',P hv σ'->σ'.g=σ.g/\σ'.r.sb=σ.r.sb/\σ'.r.cl=σ.r.cl/\σ'.cs=σ.cs/\σ'.p=σ.p/\σ'.A.ab=σ.A.ab/\σ'.eb=σ.eb/\σ'.s.lg.length < 1000000)
  (hdo:∀R W,Mem B w0 (σ.L B++R) W->Calls Tryz.prog F #[.pointer (some ⟨σ.g,0,none⟩)] W fun e w'=>∃hv σ',e=.returned (.int .u64 hv)/\Mem B w0 (σ'.L B++R) w'/\P hv σ') :
  Calls Tryz.prog 15 #[.pointer (some ⟨σ.g,0,none⟩)] w fun e w'=>∃hv σ',e=.returned (.tuple #[stepV σ.r.cl σ.r.ph (decide (σ.s.lg.length < σ'.s.lg.length)) hv σ'.r.done σ'.r.done,.int .i64 0])/\Mem B w0 (σ'.L B++R) w'/\P hv σ':=by
 have HM:=hid M
 have HO:=hid O
 have HP:=hid hP
 have HDO:=hid hdo
 have HDV:=hid hdv
 have lg:=(m_rd M).lt
 have a0:w.cell? ⟨σ.g,0,none⟩=some (.pointer (some ⟨σ.r.sb,0,none⟩)):=(m_rd M).cell 0
 have a10:w.cell? ⟨σ.g,10,none⟩=some (.bool true):=((m_rd M).cell 10).trans (by rw [<-hb];rfl)
 clear M O hP hdo hdv hb
 go_enter Tryz.func15,Tryz.ntmps15
 go_wp2_with fail
 refine calls_world fun W1 hW1=>?_
 have C1:=hid (show Ch (fun _=>False) w W1 from by rw [hW1];exact (Ch.refl _ w).alloc _)
 have Z1:=hid (show Blk W1 w.heap.size 57 #[.int .i64 0,.int .u8 0,.bool false,.int .u64 0,.bool false,.bool false] from by rw [hW1];exact Blk.new w _ _)
 clear hW1
 have M1:=hid (HM.out.keep C1.out)
 refine (sbank_any W1 (m_st M1.out) HO.out.stf).mono ?_
 rintro e w' ⟨rfl,rfl⟩
 go_wp2_with fail
 refine (len_any B σ.p σ.cb σ.lv σ.s W1 (m_bk M1.out)).mono ?_
 rintro e w' ⟨rfl,rfl⟩
 clear a0 a10
 have a1:W1.cell? ⟨σ.g,1,none⟩=some (.int .i64 σ.r.cl):=(m_rd M1.out).cell 1
 have a11:W1.cell? ⟨σ.g,11,none⟩=some (.int .u8 σ.r.ph):=(m_rd M1.out).cell 11
 go_wp2_with fail
 obtain ⟨S,hS⟩:∃S:Nat->Prop,∀k,S k↔k < W1.heap.size:=⟨_,fun _=>Iff.rfl⟩
 have hSp1:Mix.Has S σ.g:=(hS _).2 (m_rd M1.out).lt
 have HSS:=hid hS
 clear hS
 refine Mix.rg S [1,1,1,4,1,1,1,4,1,3,2] [0,1,2,3,4,5,6,7,8,9,10] ?_
 repeat ((first | refine Mix.zq ?_ | refine Mix.zp ?_ | refine Mix.zs ?_);go_big_quiet_step (fail);refine wpQuiet_nil ?_)
 refine Mix.za fun W2 hW2=>?_
 obtain ⟨k2,rfl⟩:=hW2
 go_wp2_with fail
 refine ⟨fun k hk=>Below.heap_alloc _ _ k ((HSS.out k).1 hk),Mix.mix_world fun W3 hW3=>?_⟩
 obtain ⟨zb,hzb⟩:∃z,z=W1.heap.size:=⟨_,rfl⟩
 have C3:=hid (show Ch (fun _=>False) w W3 from by rw [hW3];first | exact (C1.out.drewN k2).alloc _ | exact C1.out.trans (Ch.push rfl rfl rfl rfl) (fun _ _ h=>h))
 have Z3:=hid (show Blk W3 w.heap.size 57 #[.int .i64 0,.int .u8 0,.bool false,.int .u64 0,.bool false,.bool false] from by rw [hW3];exact (Z1.out.drewN k2).alloc _)
 have Y3:=hid (show Blk W3 zb 57 #[.int .i64 0,.int .u8 0,.bool false,.int .u64 0,.bool false,.bool false] from by rw [hW3,hzb];first | exact Blk.new (W1.drewN k2) _ _ | exact Blk.push rfl)
 have nz:=hid (show w.heap.size < zb from by have:=Z1.out.lt;omega)
 rw [<-hzb]
 clear hW3 hzb a1 a11
 have M3:=hid (HM.out.keep C3.out)
 obtain ⟨y0,y1,y2,y3,y4,y5⟩:=Y3.out.c6
 obtain ⟨g0,g1,g2,g3,g4,g5⟩:=Y3.out.f6
 repeat ((first | refine Mix.zq ?_ | refine Mix.zp ?_ | refine Mix.zs ?_);go_big_quiet_step (fail);refine wpQuiet_nil ?_)
 refine Mix.ze fun W4 hW4=>?_
 obtain ⟨k4,rfl⟩:=hW4
 go_wp2_with fail
 intro k5
 refine at_world fun W6 hW6=>?_
 have C6:=hid (show Ch (fun _=>False) w W6 from by rw [hW6];exact (((((((C3.out.drewN k4).set (fun h=>absurd h (by have:=nz.out;omega)) _).set (fun h=>absurd h (by have:=nz.out;omega)) _).set (fun h=>absurd h (by have:=nz.out;omega)) _).set (fun h=>absurd h (by have:=nz.out;omega)) _).set (fun h=>absurd h (by have:=nz.out;omega)) _).set (fun h=>absurd h (by have:=nz.out;omega)) _).drewN k5)
 have Z6:=hid (show Blk W6 w.heap.size 57 #[.int .i64 0,.int .u8 0,.bool false,.int .u64 0,.bool false,.bool false] from by rw [hW6];exact (((((((Z3.out.drewN k4).far (Nat.ne_of_lt nz.out) _).far (Nat.ne_of_lt nz.out) _).far (Nat.ne_of_lt nz.out) _).far (Nat.ne_of_lt nz.out) _).far (Nat.ne_of_lt nz.out) _).far (Nat.ne_of_lt nz.out) _).drewN k5)
 have Y6:=hid (show Blk W6 zb 57 #[.int .i64 σ.r.cl,.int .u8 σ.r.ph,.bool false,.int .u64 0,.bool false,.bool false] from by rw [hW6];exact (((((((Y3.out.drewN k4).put 0 _).put 1 _).put 2 _).put 3 _).put 4 _).put 5 _).drewN k5)
 clear hW6 y0 g0 y1 g1 y2 g2 y3 g3 y4 g4 y5 g5
 have M6:=hid (HM.out.keep C6.out)
 have a12:W6.cell? ⟨σ.g,12,none⟩=some (.func (.func F) #[.pointer (some ⟨σ.g,0,none⟩)] #[]):=((m_rd M6.out).cell 12).trans (by rw [<-HDV.out];rfl)
 have MF:=mem_front2 HM.out C6.out Z6.out Y6.out (Nat.le_refl _) (Nat.le_of_lt nz.out) (Nat.ne_of_lt nz.out)
 have MX6:=hid (show Mem B w0 (σ.L B++(R++[blkR w.heap.size 57 #[.int .i64 0,.int .u8 0,.bool false,.int .u64 0,.bool false,.bool false],blkR zb 57 #[.int .i64 σ.r.cl,.int .u8 σ.r.ph,.bool false,.int .u64 0,.bool false,.bool false]])) W6 from by
  rw [<-List.append_assoc]
  exact MF.perm List.perm_append_comm)
 clear MF
 go_wp2_with fail
 refine (HDO.out _ W6 MX6.out).mono ?_
 rintro e w7 ⟨hv,σ',rfl,hM7,hP7⟩
 obtain ⟨q1,q2,q3,q4,q5,q6,q7,q8⟩:=HP.out hv σ' hP7
 have HPV:=hid hP7
 have MX7:=hid (show Mem B w0 ([blkR w.heap.size 57 #[.int .i64 0,.int .u8 0,.bool false,.int .u64 0,.bool false,.bool false],blkR zb 57 #[.int .i64 σ.r.cl,.int .u8 σ.r.ph,.bool false,.int .u64 0,.bool false,.bool false]]++(σ'.L B++R)) w7 from by
  rw [<-List.append_assoc] at hM7
  exact hM7.perm List.perm_append_comm)
 have HQ1:=hid q1
 have HQ2:=hid q2
 have HSTF:=hid (show StF σ'.cs σ'.p σ'.A.ab σ'.eb y from by rw [q4,q5,q6,q7];exact HO.out.stf)
 have HQ8:=hid q8
 have gz1:σ.g≠zb:=by have:=nz.out;omega
 have gz2:zb≠σ.g:=Ne.symm gz1
 have rz1:w.heap.size≠zb:=Nat.ne_of_lt nz.out
 have rz2:zb≠w.heap.size:=Ne.symm rz1
 clear hM7 hP7 a12 q1 q2 q3 q4 q5 q6 q7 q8
 have Y7:=hid (MX7.out.each 1 _ rfl)
 have b0:w7.cell? ⟨σ.g,0,none⟩=some (.pointer (some ⟨σ.r.sb,0,none⟩)):=by
  have:=(m_rd (show Mem B w0 (σ'.L B++R) w7 from MX7.out.drop 2)).cell 0
  rw [HQ1.out] at this
  rw [<-HQ2.out]
  exact this
 have y3:w7.cell? ⟨zb,3,none⟩=some (.int .u64 0):=Y7.out.cell 3
 have g3:=Y7.out.free 3
 go_wp2_with fail
 refine calls_world fun W8 hW8=>?_
 have MX8:=hid (show Mem B w0 ([blkR w.heap.size 57 #[.int .i64 0,.int .u8 0,.bool false,.int .u64 0,.bool false,.bool false],blkR zb 57 #[.int .i64 σ.r.cl,.int .u8 σ.r.ph,.bool false,.int .u64 hv,.bool false,.bool false]]++(σ'.L B++R)) W8 from by rw [hW8];exact MX7.out.put (i:=1) rfl 3 (.int .u64 hv))
 clear hW8 b0 y3 g3
 have M8:=hid (show Mem B w0 (σ'.L B++R) W8 from MX8.out.drop 2)
 have hst8:=m_st M8.out
 rw [HQ2.out] at hst8
 have HST8:=hid hst8
 clear hst8
 refine (sbank_any W8 HST8.out HSTF.out).mono ?_
 rintro e w' ⟨rfl,rfl⟩
 go_wp2_with fail
 refine (len_any B σ'.p σ'.cb σ'.lv σ'.s W8 (m_bk M8.out)).mono ?_
 rintro e w' ⟨rfl,rfl⟩
 have Y8:=hid (MX8.out.each 1 _ rfl)
 have y2:W8.cell? ⟨zb,2,none⟩=some (.bool false):=Y8.out.cell 2
 have g2:=Y8.out.free 2
 obtain ⟨la,hla⟩:∃x,x=σ.s.lg.length:=⟨_,rfl⟩
 obtain ⟨lb,hlb⟩:∃x,x=σ'.s.lg.length:=⟨_,rfl⟩
 rw [<-hla,<-hlb]
 have HLA:=hid hla
 have HLB:=hid hlb
 clear hla hlb
 go_wp2_with fail
 refine at_world fun W9 hW9=>?_
 obtain ⟨ac,hac⟩:∃x:Bool,x=decide (la < lb):=⟨_,rfl⟩
 have HAC:=hid hac
 have MX9:=hid (show Mem B w0 ([blkR w.heap.size 57 #[.int .i64 0,.int .u8 0,.bool false,.int .u64 0,.bool false,.bool false],blkR zb 57 #[.int .i64 σ.r.cl,.int .u8 σ.r.ph,.bool ac,.int .u64 hv,.bool false,.bool false]]++(σ'.L B++R)) W9 from by rw [hW9,hac];first | exact MX8.out.put (i:=1) rfl 2 _ | exact (by simpa using MX8.out.put (i:=1) rfl 2 (.bool (decide (la < lb)))))
 clear hW9 y2 g2 hac
 obtain ⟨dn,hdn⟩:∃x,x=σ'.r.done:=⟨_,rfl⟩
 have HDN:=hid hdn
 have d13:W9.cell? ⟨σ.g,13,none⟩=some (.bool dn):=by
  have:=(m_rd (show Mem B w0 (σ'.L B++R) W9 from MX9.out.drop 2)).cell 13
  rw [HQ1.out] at this
  rw [hdn]
  exact this
 have lg9:=(m_rd (show Mem B w0 (σ'.L B++R) W9 from MX9.out.drop 2)).lt
 rw [HQ1.out] at lg9
 have Y9:=hid (MX9.out.each 1 _ rfl)
 obtain ⟨-,-,-,-,y4,y5⟩:=Y9.out.c6
 have g4:=Y9.out.free 4
 have g5:=Y9.out.free 5
 clear hdn
 obtain ⟨S,hS⟩:∃S:Nat->Prop,∀k,S k↔k=σ.g:=⟨_,fun _=>Iff.rfl⟩
 have hSp2:Mix.Has S σ.g:=(hS _).2 rfl
 have HS2:=hid hS
 clear hS
 refine Mix.rg S [0,0,0,0,1,1,1,4,0,3,0,2] [0,1,2,3,4,5,6,7,8,9,10,11] ?_
 repeat ((first | refine Mix.zq ?_ | refine Mix.zp ?_ | refine Mix.zs ?_);go_big_quiet_step (fail);refine wpQuiet_nil ?_)
 refine Mix.za fun W10 hW10=>?_
 obtain ⟨k10,rfl⟩:=hW10
 go_wp2_with fail
 refine ⟨fun k hk=>by rw [(HS2.out k).1 hk];exact (((Ch.refl (fun b=>b=zb) W9).drewN k10).set (fun _=>rfl) _).block _ lg9 gz1,?_⟩
 repeat ((first | refine Mix.zq ?_ | refine Mix.zp ?_ | refine Mix.zs ?_);go_big_quiet_step (fail);refine wpQuiet_nil ?_)
 refine Mix.ze fun W11 hW11=>?_
 obtain ⟨k11,rfl⟩:=hW11
 go_wp2_with fail
 intro k12
 refine at_world fun W13 hW13=>?_
 have MX13:=hid (show Mem B w0 ([blkR w.heap.size 57 #[.int .i64 0,.int .u8 0,.bool false,.int .u64 0,.bool false,.bool false],blkR zb 57 #[.int .i64 σ.r.cl,.int .u8 σ.r.ph,.bool ac,.int .u64 hv,.bool dn,.bool dn]]++(σ'.L B++R)) W13 from by rw [hW13];exact ((((MX9.out.drewN k10).put (i:=1) rfl 4 (.bool dn)).drewN k11).put (i:=1) rfl 5 (.bool dn)).drewN k12)
 clear hW13 d13 lg9 y4 y5 g4 g5
 have Y13:=hid (MX13.out.each 1 _ rfl)
 have Z13:=hid (MX13.out.each 0 _ rfl)
 have y0:W13.cell? ⟨zb,0,none⟩=some (.int .i64 σ.r.cl):=Y13.out.cell 0
 have r0:W13.cell? ⟨w.heap.size,0,none⟩=some (.int .i64 0):=Z13.out.cell 0
 have q0:=Z13.out.free 0
 have y1:W13.cell? ⟨zb,1,none⟩=some (.int .u8 σ.r.ph):=Y13.out.cell 1
 have r1:W13.cell? ⟨w.heap.size,1,none⟩=some (.int .u8 0):=Z13.out.cell 1
 have q1:=Z13.out.free 1
 have y2:W13.cell? ⟨zb,2,none⟩=some (.bool ac):=Y13.out.cell 2
 have r2:W13.cell? ⟨w.heap.size,2,none⟩=some (.bool false):=Z13.out.cell 2
 have q2:=Z13.out.free 2
 have y3:W13.cell? ⟨zb,3,none⟩=some (.int .u64 hv):=Y13.out.cell 3
 have r3:W13.cell? ⟨w.heap.size,3,none⟩=some (.int .u64 0):=Z13.out.cell 3
 have q3:=Z13.out.free 3
 have y4:W13.cell? ⟨zb,4,none⟩=some (.bool dn):=Y13.out.cell 4
 have r4:W13.cell? ⟨w.heap.size,4,none⟩=some (.bool false):=Z13.out.cell 4
 have q4:=Z13.out.free 4
 have y5:W13.cell? ⟨zb,5,none⟩=some (.bool dn):=Y13.out.cell 5
 have r5:W13.cell? ⟨w.heap.size,5,none⟩=some (.bool false):=Z13.out.cell 5
 have q5:=Z13.out.free 5
 go_wp2_with fail
 refine at_world fun WZ hWZ=>?_
 have MXZ:=hid (show Mem B w0 ([blkR w.heap.size 57 #[.int .i64 σ.r.cl,.int .u8 σ.r.ph,.bool ac,.int .u64 hv,.bool dn,.bool dn],blkR zb 57 #[.int .i64 σ.r.cl,.int .u8 σ.r.ph,.bool ac,.int .u64 hv,.bool dn,.bool dn]]++(σ'.L B++R)) WZ from by rw [hWZ];exact ((((((MX13.out.put (i:=0) rfl 0 _).put (i:=0) rfl 1 _).put (i:=0) rfl 2 _).put (i:=0) rfl 3 _).put (i:=0) rfl 4 _).put (i:=0) rfl 5 _))
 clear hWZ y0 r0 q0 y1 r1 q1 y2 r2 q2 y3 r3 q3 y4 r4 q4 y5 r5 q5
 have BZ:=hid (MXZ.out.each 0 _ rfl)
 obtain ⟨t0,t1,t2,t3,t4,t5⟩:=BZ.out.c6
 refine bodyPost_ret (v:=.tuple #[.agg #[.int .i64 σ.r.cl,.int .u8 σ.r.ph,.bool ac,.int .u64 hv,.bool dn,.bool dn],.int .i64 0]) (by simp [results,Tryz.results15,go_sem,t0,t1,t2,t3,t4,t5]) rfl ⟨hv,σ',?_,MXZ.out.drop 2,HPV.out⟩
 rw [<-HLA.out,<-HLB.out,<-HAC.out,<-HDN.out]
 rfl
end
end Go.Proofs.YtjcdknhejcbpiaaGreat
