/- Lemmas; no condition. -/
import Derived.Test.YtjcdknhejcbpiaaGreatSb26
import Derived.Test.YtjcdknhejcbpiaaGreatSb28
set_option maxRecDepth 100000
set_option maxHeartbeats 4000000
namespace Go.Proofs.YtjcdknhejcbpiaaGreat
open Go.RowKit
set_option linter.unusedVariables false
set_option linter.unusedSimpArgs false
set_option linter.unusedSectionVars false
theorem mL_ok (l:List UInt8) (h:l.length<=1000000):(mL l).ok:=by
 have t:=mOf_ok ⟨l.toArray⟩ (show l.toArray.size<=1000000 by rw [List.size_toArray];exact h)
 rw [mOf_list] at t
 exact t
theorem bsK_eq (m:Ms) (ks:List Kd) (j:Nat):bsK m ks j=m.add (msum ((ks.map Kd.m).take j)):=by
 unfold bsK
 rw [fold_add,<-List.map_take]
 rfl
theorem Dn.base_ok {f:Ms->Int} {tx:List UInt8} {ns:List An} {ix:Nat} {n r:Int} {base:Ms} (h:Dn f tx ns ix n r base) (hl:tx.length<=1000000):base.ok:=by
 obtain ⟨u,pre,post,hu,htx,hb,_⟩:=h.ex
 rw [<-hb]
 apply mL_ok
 rw [htx] at hl
 simp only [List.length_append] at hl
 omega
theorem Dn.bases {f:Ms->Int} {tx:List UInt8} {ns:List An} {ix:Nat} {n r:Int} {base:Ms} (h:Dn f tx ns ix n r base) (hl:tx.length<=1000000) {y:An} (hy:ns[ix]?=some y) (h0:y.x.h≠0) (j:Nat) (hj:j < y.x.ks.length):(bsK base y.x.ks j).ok:=by
 obtain ⟨u,pre,post,hu,htx,hb,_⟩:=h.ex
 obtain ⟨t,A,C,ht,hut,hA,hkm⟩:=nt_kid hu hy h0 (List.getElem?_eq_getElem hj)
 rw [bsK_eq,<-hA,<-hb,<-mL_app]
 apply mL_ok
 rw [htx,hut] at hl
 simp only [List.length_append] at hl |-
 omega
theorem Nd.ok.kl {x:Nd} (h:x.ok):x.ks.length<=4:=by
 rcases h with ⟨_,_,_,h⟩ | ⟨_,_,_,_,h,_⟩
 ·rw [h];decide
 ·exact h
theorem Nd.ok.km {x:Nd} (h:x.ok):∀k ∈ x.ks,k.m.ok:=by
 rcases h with ⟨_,_,_,h⟩ | ⟨_,_,_,_,_,h,_⟩
 ·rw [h];intro k hk;cases hk
 ·exact fun k hk=>(h k hk).ms
theorem Nd.ok.sz {x:Nd} (h:x.ok):x.s.size<=16:=by
 rcases h with ⟨_,_,h,_⟩ | ⟨_,_,h,_⟩
 ·exact h
 ·rw [h];decide
def VisOut (B:Nat) (w0:World) (R:List Res) (σ:RS) (f:Ms->Int) (o:Int) (at':List Int->Nat->Int) (i:Nat) (z:An) (e:Ending) (w':World):Prop:=e=.returned (.int .u64 (hdl i))/\
 ((z.x.h≠0/\∃(ci:Nat) (k:Kd) (q:Int),z.x.ks[ci]?=some k/\Chosen f (z.x.ks.map Kd.m) (σ.r.rest - o) ci q/\Mem B w0 (RS.L B { σ with r:={ σ.r with at':=hdl k.at',rest:=q+o,base:=bsK σ.r.base z.x.ks ci } }++R) w')\/
 (z.x.h=0/\Mem B w0 (RS.L B { σ with r:=Rd.fin σ.r { RsV.zero with at':=σ.r.base.b+at' (bs z.x.s) (σ.r.rest - o).toNat },tx:=[] }++R) w'))
section
variable {B:Nat} {w0 w:World} {R:List Res} {σ:RS} {y:Ly} {n m:Nat}
theorem visitRune_m (M:Mem B w0 (σ.L B++R) w) (O:σ.Ok y n m) (P:ArP σ.ns) {tx:List UInt8} (htx:tx.length<=1000000) {i:Nat} {nn:Int} (D:Dn (fun m=>m.r) tx σ.ns i nn σ.r.rest σ.r.base) {z:An} (hi:σ.r.at'=hdl i) (hz:σ.ns[i]?=some z) :
  Calls Tryz.prog 71 #[.pointer (some ⟨σ.g,0,none⟩)] w (VisOut B w0 R σ (fun m=>m.r) 0 (fun l n=>(nthP begB l n:Nat)) i z):=by
 have zok:=P.ok z (List.mem_of_getElem? hz)
 have HV:=hid (visit_m M O hi hz (Nat.le_trans zok.kl (by decide)))
 have HZ:=hid zok
 have HM:=hid M
 have HBO:=hid (D.base_ok htx)
 have HBS:=hid (fun h0=>D.bases htx hz h0)
 have HSU:=hid (D.sum P hz)
 have HLE:=hid (fun h0=>D.leaf P hz h0)
 have lg:=(m_rd M).lt
 obtain ⟨⟨hh,s,ks⟩,za,zc⟩:=z
 simp only [Nd.v] at HV
 clear M O P D hi hz htx zok
 go_enter Tryz.func71,Tryz.ntmps71
 go_wp2_with fail
 refine HV.out.mono ?_
 rintro e w2 ⟨a,c,hcl,rfl,hin,hc⟩
 have M2:=hid (HM.out.keep hc)
 have L2:=hid hc.size
 obtain ⟨kn,hkn⟩:∃x,x=ks.length:=⟨_,rfl⟩
 rw [<-hkn] at hcl
 rw [<-hkn]
 have HKN:=hid hkn
 have HIN:=hid (show InP Kd.cells 4 w2 (fun b=>w.heap.size<=b) a kn ks from by rw [hkn];exact hin)
 have HCL:=hid hcl
 clear hin hc HV HM hkn hcl
 by_cases h0:hh=0
 ·subst h0
  go_wp2_with fail
  refine at_world fun W3 hW3=>?_
  have M3:=hid (show Mem B w0 (σ.L B++R) W3 from by rw [hW3];exact M2.out.alloc _)
  have X3:=hid (show Blk W3 w2.heap.size 229 #[.int .i64 ((0:Nat):Int),.string s,.slice a kn c] from by rw [hW3];exact Blk.new w2 _ _)
  clear hW3
  obtain ⟨rn,hrn⟩:∃rn:Nat,σ.r.rest=(rn:Int):=⟨σ.r.rest.toNat,by have:=HSU.out.1;omega⟩
  have HRN:=hid hrn
  have hlt:=hid (show rn < cntP begB (bs s) from by
   have t:=HSU.out.2
   rw [hrn] at t
   have u:(rn:Int) < (mOf s).r:=t
   simp only [mOf] at u
   omega)
  have hbb:=HBO.out
  have hss:=hid HZ.out.sz
  have x1:W3.cell? ⟨w2.heap.size,1,none⟩=some (.string s):=X3.out.cell 1
  have a30:W3.cell? ⟨σ.g,30,none⟩=some (.int .i64 (rn:Int)):=((m_rd M3.out).cell 30).trans (by rw [<-hrn];rfl)
  clear hrn
  refine Mix.rt [0,0,0,0,0,0,2,0,0,0,0,0] [0,1,2,3,4,5,6,7,8,9,10,11] ?_
  repeat ((first | refine Mix.zq ?_ | refine Mix.zp ?_ | refine Mix.zs ?_);go_big_quiet_step (fail);refine wpQuiet_nil ?_)
  refine Mix.ze fun W4 hW4=>?_
  obtain ⟨k4,rfl⟩:=hW4
  go_wp2_with fail
  refine (mrune_any s (Nat.le_trans hss.out (by decide)) rn hlt.out _).mono ?_
  rintro e w5 ⟨rfl,rfl⟩
  have hq1:=nthP_lt begB (bs s) rn hlt.out
  rw [bs_length] at hq1
  have hq2:=hss.out
  obtain ⟨q,hq⟩:∃q,q=nthP begB (bs s) rn:=⟨_,rfl⟩
  have HQ:=hid hq
  rw [<-hq] at hq1
  rw [<-hq]
  have hq3:q<=16:=by omega
  clear hq hq1 hq2
  go_wp2_with fail
  repeat ((first | refine Mix.zq ?_ | refine Mix.zp ?_ | refine Mix.zs ?_);go_big_quiet_step (fail);refine wpQuiet_nil ?_)
  intro k6
  refine at_world fun W6 hW6=>?_
  have M6:=hid (show Mem B w0 (σ.L B++R) W6 from by rw [hW6];exact (M3.out.drewN k4).drewN k6)
  clear hW6 x1 a30
  have a31:W6.cell? ⟨σ.g,31,none⟩=some (.int .i64 σ.r.base.b):=(m_rd M6.out).cell 31
  obtain ⟨bb0,bb1,bb2,bb3⟩:=hbb
  have bb4:0<=σ.r.base.b:=by omega
  go_wp2_with fail
  refine (rend_any σ.g σ.r { RsV.zero with at':=σ.r.base.b+(q:Int) } W6 (m_rd M6.out)).mono ?_
  intro e w7 h7
  have M7:=hid (m_fin M6.out h7 rfl)
  obtain ⟨rfl,_⟩:=h7
  go_wp2_with fail
  go_ret
  refine ⟨rfl,.inr ⟨rfl,?_⟩⟩
  have eq1:(σ.r.rest - 0).toNat=rn:=by rw [HRN.out];omega
  simp only [eq1,<-HQ.out]
  exact M7.out
 ·have d1:decide ((hh:Int) > 0)=true:=decide_eq_true (by omega)
  have d2:decide (0 < (hh:Int))=true:=decide_eq_true (by omega)
  have d3:decide (0 < hh)=true:=decide_eq_true (by omega)
  go_wp2_with fail
  refine at_world fun W3 hW3=>?_
  have M3:=hid (show Mem B w0 (σ.L B++R) W3 from by rw [hW3];exact M2.out.alloc _)
  have X3:=hid (show Blk W3 w2.heap.size 229 #[.int .i64 (hh:Int),.string s,.slice a kn c] from by rw [hW3];exact Blk.new w2 _ _)
  have C3:=hid (show Ch (fun _=>False) w2 W3 from by rw [hW3];exact (Ch.refl _ w2).alloc _)
  clear hW3
  obtain ⟨rn,hrn⟩:∃rn,rn=σ.r.rest:=⟨_,rfl⟩
  have HRN:=hid hrn
  obtain ⟨x0,x1,x2⟩:=X3.out.c3
  have a30:W3.cell? ⟨σ.g,30,none⟩=some (.int .i64 rn):=((m_rd M3.out).cell 30).trans (by rw [hrn];rfl)
  clear hrn
  refine Mix.rt [0,0,0,0,0,2,0,0,0,0,0,0,0] [0,1,2,3,4,5,6,7,8,9,10,11,12] ?_
  repeat ((first | refine Mix.zq ?_ | refine Mix.zp ?_ | refine Mix.zs ?_);go_big_quiet_step (fail);refine wpQuiet_nil ?_)
  refine Mix.ze fun W4 hW4=>?_
  obtain ⟨k4,rfl⟩:=hW4
  go_wp2_with fail
  refine calls_world fun W5 hW5=>?_
  have C5:=hid (show Ch (fun _=>False) W3 W5 from by rw [hW5];exact (Ch.refl _ W3).drewN k4)
  clear hW5 x0 x1 x2 a30
  have HI5:=hid (HIN.out.keep (S':=fun b=>w.heap.size<=b) (C3.out.trans C5.out (fun _ _ h=>h)) (fun _ _ _ h=>h) (fun _ _ h=>h))
  refine (nrune_any (fun b=>w.heap.size<=b) ⟨hh,s,ks⟩ a kn c W5 HZ.out h0 HI5.out rn (by rw [HRN.out];exact HSU.out.1) (by rw [HRN.out];exact HSU.out.2)).mono ?_
  rintro e w6 ⟨ci,q,rfl,hch,hci,hq,hc⟩
  have HCH:=hid hch
  have C6:=hid (C5.out.trans hc (fun _ _ h=>h))
  have HI6:=hid (HI5.out.keep (S':=fun b=>w.heap.size<=b) hc (fun _ _ _ h=>h) (fun _ _ h=>h))
  clear hch hc
  go_wp2_with fail
  repeat ((first | refine Mix.zq ?_ | refine Mix.zp ?_ | refine Mix.zs ?_);go_big_quiet_step (fail);refine wpQuiet_nil ?_)
  intro k7
  refine at_world fun W7 hW7=>?_
  have C7:=hid (show Ch (fun _=>False) w6 W7 from by rw [hW7];exact (Ch.refl _ w6).drewN k7)
  clear hW7
  have C37:=hid (C6.out.trans C7.out (fun _ _ h=>h))
  have M7:=hid (M3.out.keep C37.out)
  have X7:=hid (C37.out.blk X3.out id)
  have HI7:=hid (HI6.out.keep (S':=fun b=>w.heap.size<=b) C7.out (fun _ _ _ h=>h) (fun _ _ h=>h))
  obtain ⟨x0,x1,x2⟩:=X7.out.c3
  have hkk:=HKN.out
  have hk4:=hid HZ.out.kl
  obtain ⟨k,hk⟩:∃k,ks[ci]?=some k:=⟨_,List.getElem?_eq_getElem (by omega)⟩
  have HK:=hid hk
  clear hk hkk
  go_wp2_with fail
  refine (down_any σ.g σ.r (fun b=>w.heap.size<=b) (by omega) (hh:Int) s ks a kn c ci HCL.out q k HK.out (by have h4:ks.length<=4:=hk4.out;have:=HKN.out;omega) HZ.out.km (fun j hj=>HBS.out h0 j (show j < ks.length by have:=HKN.out;omega)) W7 (m_rd M7.out) HI7.out).mono ?_
  intro e w8 h8
  have M8:=hid (m_set M7.out h8 rfl rfl)
  obtain ⟨rfl,_⟩:=h8
  go_wp2_with fail
  go_ret
  refine ⟨rfl,.inl ⟨h0,ci,k,q,HK.out,?_,?_⟩⟩
  ·rw [Int.sub_zero,<-HRN.out];exact HCH.out
  ·rw [Int.add_zero];exact M8.out
end
theorem txc_app (l:List UInt8) (s:ByteArray):txCells (l++s.data.toList)=txCells l++Lib.strCells s:=by
 unfold txCells
 rw [List.map_append]
 rfl
section
variable {B:Nat} {w0 w:World} {R:List Res} {σ:RS} {y:Ly} {n m:Nat}
def TakeOut (B:Nat) (w0:World) (R:List Res) (σ:RS) (sv:ByteArray) (k:Nat) (w:World) (e:Ending) (w':World):Prop:=e=.returned (.tuple #[])/\∃tv,Mem B w0 (RS.L B { σ with r:={ σ.r with tx:=tv,next:=σ.r.next+k,need:=σ.r.need - k },tx:=σ.tx++sv.data.toList }++R) w'/\Ch (fun b=>b=σ.g\/σ.r.tx.ownBlock=some b) w w'
theorem take_m (M:Mem B w0 (σ.L B++R) w) {rb xb:Nat} {hh:Int} {s:ByteArray} {ksv:Value} (hrb:Blk w rb 45 #[.pointer (some ⟨σ.g,0,none⟩)]) (hxb:Blk w xb 229 #[.int .i64 hh,.string s,ksv]) {rn k:Nat} (hr:σ.r.rest=(rn:Int)) (hk:rn+k<=s.size) (hs:s.size<=16) (hl:σ.tx.length<=1000000) (hx0:0<=σ.r.next) (hx1:σ.r.next<=1000000) (hn0:(k:Int)<=σ.r.need) (hn1:σ.r.need<=1000000) :
  Calls Tryz.prog 130 #[.int .i64 (k:Int),.pointer (some ⟨rb,0,none⟩),.pointer (some ⟨xb,0,none⟩)] w (TakeOut B w0 R σ (s.extract rn (rn+k)) k w):=by
 obtain ⟨i0,hi,hz0,hz1,hz2⟩:=info_parts (show (Tryz.prog.info? 5).map (fun i=>(i.zero,i.size,i.bytes))=some (some (Value.int .u8 0),1,1) by kernel_rfl)
 obtain ⟨av,cap,htv,_⟩:=own_slice (m_tx M)
 have hsl:∀W:World,(Instr.sliceAt 9 (.string s) (some (.int .i64 (rn:Int))) (some (.int .i64 ((rn:Int)+(k:Int)))) none).run Tryz.prog W=.ok (.string (s.extract rn (rn+k))) W:=fun W=>by
  have t:=run_slice_string (P:=Tryz.prog) W 9 s .i64 .i64 (rn:Int) ((rn:Int)+(k:Int)) Tryz.underlying9 (by omega) (by omega) (by omega)
  rw [show ((rn:Int)+(k:Int)).toNat=rn+k by omega,Int.toNat_natCast] at t
  rw [run_sliceAt_string _ _ _ _ _ _ Tryz.underlying9]
  exact t
 have hsz:(s.extract rn (rn+k)).size=k:=by rw [ByteArray.size_extract];omega
 obtain ⟨sv,hsv⟩:∃x,x=s.extract rn (rn+k):=⟨_,rfl⟩
 rw [<-hsv] at hsl hsz |-
 have HSZ:=hid hsz
 have HTV:=hid htv
 have HM:=hid M
 have HR:=hid hrb
 have HX:=hid hxb
 have hgr:rb≠σ.g:=hrb.ne (m_rd M) (by decide)
 have hgx:xb≠σ.g:=hxb.ne (m_rd M) (by decide)
 have hro:¬σ.r.tx.ownBlock=some rb:=fun e=>hrb.own (m_tx M) (by decide) e
 have hgo:¬σ.r.tx.ownBlock=some σ.g:=fun e=>(m_rd M).own (m_tx M) (by decide) e
 have HGO:=hid hgo
 have HRO:=hid hro
 have hgr2:=Ne.symm hgr
 have hrl:=hrb.lt
 have r0:w.cell? ⟨rb,0,none⟩=some (.pointer (some ⟨σ.g,0,none⟩)):=hrb.cell 0
 have x1:w.cell? ⟨xb,1,none⟩=some (.string s):=hxb.cell 1
 have a14:w.cell? ⟨σ.g,34,none⟩=some (.slice av σ.tx.length cap):=((m_rd M).cell 34).trans (by rw [<-htv];rfl)
 have a30:w.cell? ⟨σ.g,30,none⟩=some (.int .i64 (rn:Int)):=((m_rd M).cell 30).trans (by rw [<-hr];rfl)
 clear M hrb hxb hsz htv hsv hgo hro
 obtain ⟨S,hS⟩:∃S:Nat->Prop,∀k,S k↔k=rb:=⟨_,fun _=>Iff.rfl⟩
 have hSp:Mix.Has S rb:=(hS _).2 rfl
 have HSS:=hid hS
 clear hS
 go_enter Tryz.func130,Tryz.ntmps130
 go_wp2_with fail
 refine Mix.rg S [4,0,0,0,0,0,0,0,0,0,0,0,0,0,0,0,0,0,3,0,0,2] [0,1,2,3,4,5,6,7,8,9,10,11,12,13,14,15,16,17,18,19,20,21] ?_
 repeat ((first | refine Mix.zq ?_ | refine Mix.zp ?_ | refine Mix.zs ?_);go_big_quiet_step (fail);refine wpQuiet_nil ?_)
 refine Mix.za fun W2 hW2=>?_
 obtain ⟨k2,rfl⟩:=hW2
 refine wpList_app_str _ rfl (.tmp 8) (.tmp 21) 27 9 rfl B 5 i0 Tryz.underlying27 Tryz.underlying9 hi hz0 hz1 hz2 _ _ _ rfl (((Ch.refl (fun _=>False) w).drewN k2).own (HTV.out ▸ m_tx HM.out) (fun _ _=>id)) sv rfl ?c1 ?c2 ?c3
 case c1=>have:=HSZ.out;omega
 case c2=>exact HM.out.bz
 case c3=>
  intro v' w2 hown hgrow hfresh hnil
  have C2:=hid (((Ch.refl (fun b=>σ.r.tx.ownBlock=some b) w).drewN k2).grown hgrow (fun k hk _=>by rw [HTV.out];exact hk))
  have HOW:=hid hown
  have HFR:=hid (show Fresh (w.drewN k2) σ.r.tx v' from by rw [HTV.out];exact hfresh)
  obtain ⟨av',cap',hv',_⟩:=own_slice hown
  subst hv'
  clear hown hgrow hfresh hnil
  have R2:=hid (C2.out.blk HR.out HRO.out)
  have G2:=hid (C2.out.blk (m_rd HM.out) HGO.out)
  have b34:w2.cell? ⟨σ.g,34,none⟩=some (.slice av σ.tx.length cap):=(G2.out.cell 34).trans (by rw [<-HTV.out];rfl)
  have f34:=G2.out.free 34
  go_wp2_with fail
  refine ⟨fun j hj=>by rw [(HSS.out j).1 hj];exact C2.out.block _ hrl HRO.out,?_⟩
  repeat ((first | refine Mix.zq ?_ | refine Mix.zp ?_ | refine Mix.zs ?_);go_big_quiet_step (fail);refine wpQuiet_nil ?_)
  refine Mix.ze fun W3 hW3=>?_
  obtain ⟨k3,rfl⟩:=hW3
  go_wp2_with fail
  intro k4
  refine at_world fun W4 hW4=>?_
  obtain ⟨tv,htv⟩:∃x,x=Value.slice av' (σ.tx.length+sv.size) cap':=⟨_,rfl⟩
  rw [<-htv] at HOW HFR
  have B4:=hid (show Blk W4 σ.g 111 (Rd.cells { σ.r with tx:=tv }) from by rw [hW4,htv];exact Blk.as (((G2.out.drewN k3).put 34 _).drewN k4) (by kernel_rfl))
  have C24:=hid (show Ch (fun b=>b=σ.g) w2 W4 from by rw [hW4];exact (((Ch.refl (fun b=>b=σ.g) w2).drewN k3).set (fun _=>rfl) _).drewN k4)
  have R4:=hid (C24.out.blk R2.out hgr)
  have O4:=hid (C24.out.own HOW.out (fun j hj e=>G2.out.own HOW.out (by decide) (by rw [hj,e])))
  have G4:=hid (B4.out.own O4.out (by decide))
  have rl4:=R4.out.lt
  clear hW4 htv b34 f34
  have r0:W4.cell? ⟨rb,0,none⟩=some (.pointer (some ⟨σ.g,0,none⟩)):=R4.out.cell 0
  have c35:W4.cell? ⟨σ.g,35,none⟩=some (.int .i64 σ.r.need):=B4.out.cell 35
  have c36:W4.cell? ⟨σ.g,36,none⟩=some (.int .i64 σ.r.next):=B4.out.cell 36
  have f35:=B4.out.free 35
  have f36:=B4.out.free 36
  go_wp2_with fail
  refine Mix.rg S [0,4,0,0,0,0,0,0,0,0,0,0,1,1,0,0,3,0,0,2] [0,1,2,3,4,5,6,7,8,9,10,11,12,13,14,15,16,17,18,19] ?_
  repeat ((first | refine Mix.zq ?_ | refine Mix.zp ?_ | refine Mix.zs ?_);go_big_quiet_step (fail);refine wpQuiet_nil ?_)
  refine Mix.za fun W5 hW5=>?_
  obtain ⟨k5,rfl⟩:=hW5
  go_wp2_with fail
  refine ⟨fun j hj=>by rw [(HSS.out j).1 hj];exact (((Ch.refl (fun b=>b=σ.g) W4).drewN k5).set (fun _=>rfl) _).block _ rl4 hgr,?_⟩
  repeat ((first | refine Mix.zq ?_ | refine Mix.zp ?_ | refine Mix.zs ?_);go_big_quiet_step (fail);refine wpQuiet_nil ?_)
  refine Mix.ze fun W6 hW6=>?_
  obtain ⟨k6,rfl⟩:=hW6
  go_wp2_with fail
  intro k7
  refine at_world fun W7 hW7=>?_
  have B7:=hid (show Blk W7 σ.g 111 (Rd.cells { σ.r with tx:=tv,next:=σ.r.next+(k:Int),need:=σ.r.need - (k:Int) }) from by rw [hW7];exact Blk.as (((((B4.out.drewN k5).put 36 _).drewN k6).put 35 _).drewN k7) (by kernel_rfl))
  have C47:=hid (show Ch (fun b=>b=σ.g) W4 W7 from by rw [hW7];exact (((((Ch.refl (fun b=>b=σ.g) W4).drewN k5).set (fun _=>rfl) _).drewN k6).set (fun _=>rfl) _).drewN k7)
  have O7:=hid (C47.out.own O4.out (fun j hj e=>G4.out (by rw [hj,e])))
  clear hW7
  go_end0
  have CC:Ch (fun b=>b=σ.g\/σ.r.tx.ownBlock=some b) w W7:=(C2.out.mono (fun _ _ h=>.inr h)).trans (C24.out.trans C47.out (fun _ _ h=>h)) (fun _ _ h=>.inl h)
  have eL:(σ.tx++sv.data.toList).length=σ.tx.length+sv.size:=by rw [List.length_append,Array.length_toList];rfl
  refine ⟨rfl,tv,?_,CC⟩
  exact HM.out.upd2 (i:=8) (j:=0) (rowR B 5 1 (σ.tx++sv.data.toList).length tv (txCells (σ.tx++sv.data.toList))) (blkR σ.g 111 (Rd.cells { σ.r with tx:=tv,next:=σ.r.next+(k:Int),need:=σ.r.need - (k:Int) })) rfl rfl (by decide) CC (fun j _ e=>e.symm) (show W7.ownsRow B 5 1 tv (σ.tx++sv.data.toList).length (txCells (σ.tx++sv.data.toList)) from by rw [eL,txc_app];exact O7.out) B7.out (fun j e=>by
   rcases HFR.out with h | h
   ·exact .inl (h.symm.trans e)
   ·exact .inr (Nat.le_trans ((Ch.refl (fun _=>False) w).drewN k2).size (h j e))) (fun j e=>e)
end
end Go.Proofs.YtjcdknhejcbpiaaGreat
