/- Lemmas; no condition. -/
import Derived.Test.YtjcdknhejcbpiaaGreatSb29
import Derived.Laws.IdiomStrings
import Derived.Lib.BufferRead
set_option maxRecDepth 100000
set_option maxHeartbeats 8000000
namespace Go.Proofs.YtjcdknhejcbpiaaGreat
open Go.RowKit
set_option linter.unusedVariables false
set_option linter.unusedSimpArgs false
set_option linter.unusedSectionVars false
theorem conv_tx {w:World} {B:Nat} {v:Value} {l:List UInt8} (h:w.ownsRow B 5 1 v l.length (txCells l)):(convert 27 9 v).run Tryz.prog w=.ok (.string ⟨l.toArray⟩) w:=by
 obtain ⟨av,cap,rfl,_⟩:=own_slice h
 rcases Nat.eq_zero_or_pos l.length with h0 | h0
 ·have hl:l=[]:=List.eq_nil_of_length_eq_zero h0
  subst hl
  cases av with
  | none=>exact Lib.run_convert_nil_bytes w _ _ 5 cap Tryz.underlying27 Tryz.underlying5 Tryz.underlying9
  | some a=>exact run_convert_bytes_back w _ _ 5 a cap [] Tryz.underlying27 Tryz.underlying5 Tryz.underlying9 (fun j hj=>absurd hj (Nat.not_lt_zero _))
 ·obtain ⟨g,cap',hv,_,_,_,_⟩:=own_form h h0
  injection hv with h1
  subst h1
  refine run_convert_bytes_back w _ _ 5 _ cap l Tryz.underlying27 Tryz.underlying5 Tryz.underlying9 (fun j hj=>?_)
  exact h.cells (g:=g) rfl j _ (by unfold txCells;rw [List.getElem?_map,List.getElem?_eq_getElem hj];rfl)
theorem mem_off {B:Nat} {w0 W W':World} {L:List Res} {fp:Nat->Prop} (h:Mem B w0 L W) (c:Ch fp W W') (hf:∀k,fp k->B<=k/\∀(i:Nat) (r:Res),L[i]?=some r->¬r.foot k):Mem B w0 L W':=
 ⟨fun i r hi=>r.stable (h.each i r hi) c (fun k hk e=>(hf k e).2 i r hi hk),h.apart,h.low,h.bel.trans (c.belowB h.bz (fun k _ e=>(hf k e).1)),Nat.le_trans h.bz c.size⟩
section
variable {B:Nat} {w0 w:World} {R:List Res} {σ:RS} {y:Ly} {n m:Nat}
theorem taken_read (M:Mem B w0 (σ.L B++R) w) (hop:σ.r.op.k=7) :
  Calls Tryz.prog 105 #[.pointer (some ⟨σ.g,0,none⟩)] w fun e w'=>e=.returned (.int .u64 0)/\Mem B w0 (RS.L B { σ with r:=σ.r.fin { RsV.zero with s:=⟨σ.tx.toArray⟩ },tx:=[] }++R) w':=by
 have HM:=hid M
 obtain ⟨av,cap,htv,_⟩:=own_slice (m_tx M)
 have hcv:=conv_tx (m_tx M)
 rw [htv] at hcv
 have a34:w.cell? ⟨σ.g,34,none⟩=some (.slice av σ.tx.length cap):=((m_rd M).cell 34).trans (by rw [<-htv];rfl)
 have lg:=(m_rd M).lt
 obtain ⟨s,hs⟩:∃s:ByteArray,s=⟨σ.tx.toArray⟩:=⟨_,rfl⟩
 rw [<-hs] at hcv |-
 have HOP:=hid hop
 clear M htv hs hop
 go_enter Tryz.func105,Tryz.ntmps105
 have a3:w.cell? ⟨σ.g,3,none⟩=some (.int .u8 7):=((m_rd HM.out).cell 3).trans (by rw [<-HOP.out];rfl)
 go_wp2_with fail
 refine calls_world fun W1 hW1=>?_
 have M1:=hid (show Mem B w0 (σ.L B++R) W1 from by rw [hW1];exact HM.out.alloc _)
 clear hW1
 refine (rend_any σ.g σ.r { RsV.zero with s:=s } W1 (m_rd M1.out)).mono ?_
 intro e w2 h2
 have M2:=hid (m_fin M1.out h2 rfl)
 obtain ⟨rfl,_⟩:=h2
 go_wp2_with fail
 go_ret
 exact ⟨rfl,M2.out⟩
theorem m_scur (M:Mem B w0 (σ.L B++R) w) {k:Nat} {t:Snp} (hk:σ.sl[k]?=some (some t)) (c:Int):Mem B w0 (RS.L B { σ with sl:=σ.sl.set k (some { t with cu:=c }) }++R) (w.setCell ⟨t.g,9,none⟩ (.int .i64 c)):=
 M.upd (i:=1) (slotsR B σ.lb (σ.sl.set k (some { t with cu:=c }))) rfl ((Ch.refl (fun b=>b=t.g) w).set (fun _=>rfl) _) (fun _ _ e=>.inr ⟨k,t,hk,.inl e⟩) (slots_cur c (m_sl M) hk) (fun i e=>by
  rcases e with e | ⟨j,s,hj,e⟩
  ·exact .inl (.inl e)
  ·rcases sset hj with ⟨rfl,e2⟩ | ⟨_,hj⟩
   ·injection e2 with e2
    subst e2
    exact .inl (.inr ⟨j,t,hk,e⟩)
   ·exact .inl (.inr ⟨j,s,hj,e⟩))
theorem taken_next (M:Mem B w0 (σ.L B++R) w) (O:σ.Ok y n m) (hop:σ.r.op.k=12) {k:Nat} {t:Snp} (hsl:σ.r.op.sl=(k:Int)) (hk:σ.sl[k]?=some (some t)) :
  Calls Tryz.prog 105 #[.pointer (some ⟨σ.g,0,none⟩)] w fun e w'=>e=.returned (.int .u64 0)/\Mem B w0 (RS.L B { σ with sl:=σ.sl.set k (some { t with cu:=σ.r.next }),r:=σ.r.fin { RsV.zero with at':=σ.r.next,s:=⟨σ.tx.toArray⟩ },tx:=[] }++R) w':=by
 have HM:=hid M
 obtain ⟨av,cap,htv,_⟩:=own_slice (m_tx M)
 have hcv:=conv_tx (m_tx M)
 rw [htv] at hcv
 have a34:w.cell? ⟨σ.g,34,none⟩=some (.slice av σ.tx.length cap):=((m_rd M).cell 34).trans (by rw [<-htv];rfl)
 have lg:=(m_rd M).lt
 obtain ⟨s,hs⟩:∃s:ByteArray,s=⟨σ.tx.toArray⟩:=⟨_,rfl⟩
 rw [<-hs] at hcv |-
 have hkn:k < n:=by rw [<-O.nl];exact (List.getElem?_eq_some_iff.1 hk).1
 have HO:=hid O
 have HK:=hid hk
 have HOP:=hid hop
 have HSL:=hid hsl
 obtain ⟨d1,d2⟩:=dc_ltT (a:=k) (b:=n) (by omega)
 clear M O htv hs hop hsl hk
 go_enter Tryz.func105,Tryz.ntmps105
 have a3:w.cell? ⟨σ.g,3,none⟩=some (.int .u8 12):=((m_rd HM.out).cell 3).trans (by rw [<-HOP.out];rfl)
 go_wp2_with fail
 refine at_world fun W1 hW1=>?_
 have M1:=hid (show Mem B w0 (σ.L B++R) W1 from by rw [hW1];exact HM.out.alloc _)
 have X1:=hid (show Blk W1 w.heap.size 41 #[.int .i64 0,.int .i64 0,.int .i64 0,.int .i64 0,.int .u8 0,.string s,.int .i64 0,.int .i64 0,.int .i64 0,.int .u8 0,.int .i64 0,.int .i64 0,.slice none 0 0] from by rw [hW1];exact Blk.new w _ _)
 have ngx:∀(t:Snp),SnpM B W1 t->t.g≠w.heap.size:=fun t ht=>ht.b.ne X1.out (by decide)
 have ntg:=ngx t ((m_sl M1.out).s k t HK.out)
 clear hW1 hcv a34 a3 ngx
 have a2:W1.cell? ⟨σ.g,2,none⟩=some (.slice (some ⟨σ.lb,0,none⟩) n n):=((m_rd M1.out).cell 2).trans (by rw [<-HO.out.sl];rfl)
 have a4:W1.cell? ⟨σ.g,4,none⟩=some (.int .i64 (k:Int)):=((m_rd M1.out).cell 4).trans (by rw [<-HSL.out];rfl)
 have a36:W1.cell? ⟨σ.g,36,none⟩=some (.int .i64 σ.r.next):=(m_rd M1.out).cell 36
 have l0:W1.cell? ⟨σ.lb,k,none⟩=some (pinV (sptr (some t))):=((m_sl M1.out).b.cell k).trans (pinsA_at (by rw [List.getElem?_map,HK.out];rfl))
 have l1:W1.cell? ⟨σ.lb,k,none⟩=some (.pointer (some ⟨t.g,0,none⟩)):=l0
 clear l0
 have s9:W1.cell? ⟨t.g,9,none⟩=some (.int .i64 t.cu):=((m_sl M1.out).s k t HK.out).b.cell 9
 have sf9:=((m_sl M1.out).s k t HK.out).b.free 9
 refine Mix.rt [0,0,0,0,0,0,0,0,0,0,0,0,0,0,0,0,0,2] [0,1,2,3,4,5,6,7,8,9,10,11,12,13,14,15,16,17] ?_
 repeat ((first | refine Mix.zq ?_ | refine Mix.zp ?_ | refine Mix.zs ?_);go_big_quiet_step (fail);refine wpQuiet_nil ?_)
 refine Mix.ze fun W2 hW2=>?_
 obtain ⟨k2,rfl⟩:=hW2
 go_wp2_with fail
 intro k3
 refine at_world fun W4 hW4=>?_
 have M4:=hid (show Mem B w0 (RS.L B { σ with sl:=σ.sl.set k (some { t with cu:=σ.r.next }) }++R) W4 from by rw [hW4];exact (m_scur (M1.out.drewN k2) HK.out σ.r.next).drewN k3)
 have X4:=hid (show Blk W4 w.heap.size 41 #[.int .i64 0,.int .i64 0,.int .i64 0,.int .i64 0,.int .u8 0,.string s,.int .i64 0,.int .i64 0,.int .i64 0,.int .u8 0,.int .i64 0,.int .i64 0,.slice none 0 0] from by rw [hW4];exact (((X1.out.drewN k2).far (Ne.symm ntg) _).drewN k3))
 clear hW4 a2 a4 a36 l1 s9 sf9
 have a36:W4.cell? ⟨σ.g,36,none⟩=some (.int .i64 σ.r.next):=(m_rd M4.out).cell 36
 obtain ⟨x0,x1,x2,x3,x4,x5,x6,x7,x8,x9,x10,x11,x12⟩:=X4.out.c13
 have z3:=X4.out.free 3
 have nxg:σ.g≠w.heap.size:=Nat.ne_of_lt lg
 go_wp2_with fail
 refine calls_world fun W5 hW5=>?_
 have M5:=hid (show Mem B w0 (RS.L B { σ with sl:=σ.sl.set k (some { t with cu:=σ.r.next }) }++R) W5 from by
  have M0:=m_scur HM.out HK.out σ.r.next
  have hsz:(w.setCell ⟨t.g,9,none⟩ (.int .i64 σ.r.next)).heap.size=w.heap.size:=by simp
  rw [hW5]
  refine mem_off M4.out ((Ch.refl (fun b=>b=w.heap.size) W4).set (fun _=>rfl) _) (fun j e=>⟨by rw [e];exact HM.out.bz,fun i r hi hj=>?_⟩)
  have t:=r.lt (M0.each i r hi) j hj
  rw [hsz] at t
  omega)
 clear hW5
 have H5:=m_rd M5.out
 refine (rend_any σ.g σ.r { RsV.zero with at':=σ.r.next,s:=s } W5 H5).mono ?_
 intro e w6 h6
 have M6:=hid (m_fin M5.out h6 rfl)
 obtain ⟨rfl,_⟩:=h6
 go_wp2_with fail
 go_ret
 exact ⟨rfl,M6.out⟩
end
def visF (g:Nat):Value:=.func (.func 106) #[.pointer (some ⟨g,0,none⟩)] #[]
def LeafOut (B:Nat) (w0:World) (R:List Res) (σ:RS) (k:Nat) (t:Snp) (d:Nat) (tx:List UInt8) (w':World):Prop:=
 ((d:Int) < σ.r.need/\∃tv,Mem B w0 (RS.L B { σ with r:={ σ.r with tx:=tv,next:=σ.r.next+d,need:=σ.r.need - d,ph:=12,dv:=visF σ.g,at':=t.x.at',rest:=σ.r.next+d,base:=⟨0,0,0⟩ },tx:=tx }++R) w')\/
 ((d:Int)=σ.r.need/\σ.r.op.k=7/\Mem B w0 (RS.L B { σ with r:=Rd.fin { σ.r with next:=σ.r.next+d,need:=σ.r.need - d } { RsV.zero with s:=⟨tx.toArray⟩ },tx:=[] }++R) w')\/
 ((d:Int)=σ.r.need/\σ.r.op.k=12/\Mem B w0 (RS.L B { σ with sl:=σ.sl.set k (some { t with cu:=σ.r.next+d }),r:=Rd.fin { σ.r with next:=σ.r.next+d,need:=σ.r.need - d } { RsV.zero with at':=σ.r.next+d,s:=⟨tx.toArray⟩ },tx:=[] }++R) w')
def ByteOut (B:Nat) (w0:World) (R:List Res) (σ:RS) (k:Nat) (t:Snp) (i:Nat) (z:An) (e:Ending) (w':World):Prop:=e=.returned (.int .u64 (hdl i))/\
 ((z.x.h≠0/\∃(ci:Nat) (k:Kd) (q:Int),z.x.ks[ci]?=some k/\Chosen (fun m=>m.b) (z.x.ks.map Kd.m) σ.r.rest ci q/\Mem B w0 (RS.L B { σ with r:={ σ.r with at':=hdl k.at',rest:=q,base:=bsK σ.r.base z.x.ks ci } }++R) w')\/
 (z.x.h=0/\∃d rn:Nat,σ.r.rest=(rn:Int)/\d=min σ.r.need.toNat (z.x.s.size - rn)/\LeafOut B w0 R σ k t d (σ.tx++(z.x.s.extract rn (rn+d)).data.toList) w'))
section
variable {B:Nat} {w0 w:World} {R:List Res} {σ:RS} {y:Ly} {n m:Nat}
theorem visitByte_m (M:Mem B w0 (σ.L B++R) w) (O:σ.Ok y n m) (P:ArP σ.ns) {tx:List UInt8} (htx:tx.length<=1000000) {i:Nat} {nn:Int} (D:Dn (fun m=>m.b) tx σ.ns i nn σ.r.rest σ.r.base) {z:An} (hi:σ.r.at'=hdl i) (hz:σ.ns[i]?=some z)
  {k:Nat} {t:Snp} (hsl:σ.r.op.sl=(k:Int)) (hk:σ.sl[k]?=some (some t)) (hop:σ.r.op.k=7\/σ.r.op.k=12) (hl:σ.tx.length<=1000000) (hx:0<=σ.r.next/\σ.r.next<=1000000) (hn:0<=σ.r.need/\σ.r.need<=1000000) :
  Calls Tryz.prog 106 #[.pointer (some ⟨σ.g,0,none⟩)] w (ByteOut B w0 R σ k t i z):=by
 have zok:=P.ok z (List.mem_of_getElem? hz)
 have HV:=hid (fun W (hM:Mem B w0 (σ.L B++R) W)=>visit_m hM O hi hz (Nat.le_trans zok.kl (by decide)))
 have HZ:=hid zok
 have HM:=hid M
 have HO:=hid O
 have HSL:=hid hsl
 have HK0:=hid hk
 have HOP:=hid hop
 have HL:=hid hl
 have HX:=hid hx
 have HN:=hid hn
 have HBO:=hid (D.base_ok htx)
 have HBS:=hid (fun h0=>D.bases htx hz h0)
 have HSU:=hid (D.sum P hz)
 have lg:=(m_rd M).lt
 obtain ⟨⟨hh,s,ks⟩,za,zc⟩:=z
 simp only [Nd.v] at HV
 clear M O P D hi hz htx zok hsl hk hop hl hx hn
 go_enter Tryz.func106,Tryz.ntmps106
 go_wp2_with fail
 refine calls_world fun W1 hW1=>?_
 have M1:=hid (show Mem B w0 (σ.L B++R) W1 from by rw [hW1];exact HM.out.alloc _)
 have R1:=hid (show Blk W1 w.heap.size 45 #[.pointer (some ⟨σ.g,0,none⟩)] from by rw [hW1];exact Blk.new w _ _)
 have L1:=R1.out.lt
 clear hW1
 refine (HV.out W1 M1.out).mono ?_
 rintro e w2 ⟨a,c,hcl,rfl,hin,hc⟩
 have M2:=hid (M1.out.keep hc)
 have R2:=hid (hc.blk R1.out id)
 obtain ⟨kn,hkn⟩:∃x,x=ks.length:=⟨_,rfl⟩
 rw [<-hkn] at hcl
 rw [<-hkn]
 have HKN:=hid hkn
 have HIN:=hid (show InP Kd.cells 4 w2 (fun b=>W1.heap.size<=b) a kn ks from by rw [hkn];exact hin)
 have HCL:=hid hcl
 have lrx:w.heap.size < w2.heap.size:=R2.out.lt
 have nrx:w.heap.size≠w2.heap.size:=Nat.ne_of_lt lrx
 have nrg:σ.g≠w.heap.size:=Nat.ne_of_lt lg
 clear hin hc HV HM hkn hcl
 by_cases h0:hh=0
 ·subst h0
  go_wp2_with fail
  refine at_world fun W3 hW3=>?_
  have M3:=hid (show Mem B w0 (σ.L B++R) W3 from by rw [hW3];exact M2.out.alloc _)
  have R3:=hid (show Blk W3 w.heap.size 45 #[.pointer (some ⟨σ.g,0,none⟩)] from by rw [hW3];exact R2.out.alloc _)
  have X3:=hid (show Blk W3 w2.heap.size 229 #[.int .i64 ((0:Nat):Int),.string s,.slice a kn c] from by rw [hW3];exact Blk.new w2 _ _)
  clear hW3
  obtain ⟨rn,hrn⟩:∃rn:Nat,σ.r.rest=(rn:Int):=⟨σ.r.rest.toNat,by have:=HSU.out.1;omega⟩
  obtain ⟨dn,hdn⟩:∃dn:Nat,σ.r.need=(dn:Int):=⟨σ.r.need.toNat,by have:=HN.out.1;omega⟩
  have HRN:=hid hrn
  have HDN:=hid hdn
  have hss:s.size<=16:=HZ.out.sz
  have hrs:rn<=s.size:=by
   have t:=HSU.out.2
   rw [hrn] at t
   have u:(rn:Int) < (mOf s).b:=t
   simp only [mOf] at u
   omega
  obtain ⟨d,hd⟩:∃d,d=min dn (s.size - rn):=⟨_,rfl⟩
  have hmin:=fun W=>run_min (P:=Tryz.prog) #[3,3] 3 dn (s.size - rn) W
  rw [<-hd,Int.ofNat_sub hrs] at hmin
  have HD:=hid hd
  have HSS:=hid hss
  have HRS:=hid hrs
  have r0:W3.cell? ⟨w.heap.size,0,none⟩=some (.pointer (some ⟨σ.g,0,none⟩)):=R3.out.cell 0
  have x1:W3.cell? ⟨w2.heap.size,1,none⟩=some (.string s):=X3.out.cell 1
  have a30:W3.cell? ⟨σ.g,30,none⟩=some (.int .i64 (rn:Int)):=((m_rd M3.out).cell 30).trans (by rw [<-hrn];rfl)
  have a35:W3.cell? ⟨σ.g,35,none⟩=some (.int .i64 (dn:Int)):=((m_rd M3.out).cell 35).trans (by rw [<-hdn];rfl)
  clear hrn hdn hd
  refine Mix.rt [0,0,0,0,0,0,0,0,0,0,0,0,0,0,2] [0,1,2,3,4,5,6,7,8,9,10,11,12,13,14] ?_
  repeat ((first | refine Mix.zq ?_ | refine Mix.zp ?_ | refine Mix.zs ?_);go_big_quiet_step (fail);refine wpQuiet_nil ?_)
  refine Mix.ze fun W4 hW4=>?_
  obtain ⟨k4,rfl⟩:=hW4
  go_wp2_with fail
  have hdl':rn+d<=s.size:=by have:=HD.out;have:=HRS.out;omega
  have hdn':d<=dn:=by have:=HD.out;omega
  have hown:=hid (R3.out.own (m_tx M3.out) (by decide))
  refine (take_m (M3.out.drewN k4) (R3.out.drewN k4) (X3.out.drewN k4) (rn:=rn) (k:=d) HRN.out hdl' HSS.out HL.out HX.out.1 HX.out.2 (by rw [HDN.out];omega) HN.out.2).mono ?_
  rintro e w5 ⟨rfl,tv,hM5,hC5⟩
  have M5:=hid hM5
  have R5:=hid (hC5.blk (R3.out.drewN k4) (by
   rintro (e | e)
   ·exact nrg e.symm
   ·exact hown.out e))
  clear hM5 hC5 r0 x1 a30 a35 hmin
  go_wp2_with fail
  intro k6
  refine at_world fun W6 hW6=>?_
  have M6:=hid (M5.out.drewN k6)
  have R6:=hid (R5.out.drewN k6)
  rw [<-hW6] at M6 R6
  clear hW6
  have G6:=hid (m_rd M6.out)
  have S6:=hid (m_sl M6.out)
  have r0:W6.cell? ⟨w.heap.size,0,none⟩=some (.pointer (some ⟨σ.g,0,none⟩)):=R6.out.cell 0
  by_cases hdd:d=dn
  {
 have a35:W6.cell? ⟨σ.g,35,none⟩=some (.int .i64 0):=(G6.out.cell 35).trans (by
  show some (Value.int .i64 (σ.r.need - (d:Int)))=_
  rw [HDN.out,hdd,Int.sub_self])
 have HDD:=hid hdd
 clear hdd hdl' hdn'
 go_wp2_with fail
 rcases HOP.out with h7 | h12
 ·have T:=taken_read M6.out h7
  refine T.mono ?_
  rintro e w8 ⟨rfl,hM8⟩
  have M8:=hid hM8
  have H7:=hid h7
  clear hM8 h7 T
  go_wp2_with fail
  go_ret
  exact ⟨rfl,.inr ⟨rfl,d,rn,HRN.out,by rw [HDN.out];exact HD.out,.inr (.inl ⟨by rw [HDN.out,HDD.out],H7.out,M8.out⟩)⟩⟩
 ·have O:=HO.out
  have T:=taken_next (y:=y) (n:=n) (m:=m) M6.out ⟨O.sl,O.nl,O.n8,O.cl,O.hm,O.mn,O.pl,O.stf,O.h23,O.ed,O.y0,O.y1,O.vs,O.lg,O.f0,O.fs⟩ h12 HSL.out HK0.out
  refine T.mono ?_
  rintro e w8 ⟨rfl,hM8⟩
  have M8:=hid hM8
  have H12:=hid h12
  clear hM8 h12 T O
  go_wp2_with fail
  go_ret
  exact ⟨rfl,.inr ⟨rfl,d,rn,HRN.out,by rw [HDN.out];exact HD.out,.inr (.inr ⟨by rw [HDN.out,HDD.out],H12.out,M8.out⟩)⟩⟩
 }
  {
 obtain ⟨rem,hrem⟩:∃rem:Nat,dn=rem+1+d:=⟨dn - d - 1,by omega⟩
 have a35:W6.cell? ⟨σ.g,35,none⟩=some (.int .i64 ((rem:Int)+1)):=(G6.out.cell 35).trans (by
  show some (Value.int .i64 (σ.r.need - (d:Int)))=_
  rw [HDN.out,show (dn:Int) - (d:Int)=(rem:Int)+1 by omega])
 have e1:((rem:Int)+1 == 0)=false:=by rw [beq_eq_false_iff_ne];omega
 have hkn:k < n:=by rw [<-HO.out.nl];exact (List.getElem?_eq_some_iff.1 HK0.out).1
 obtain ⟨e2,e3⟩:=dc_ltT (a:=k) (b:=n) (by omega)
 have a2:W6.cell? ⟨σ.g,2,none⟩=some (.slice (some ⟨σ.lb,0,none⟩) n n):=(G6.out.cell 2).trans (by rw [<-HO.out.sl];rfl)
 have a4:W6.cell? ⟨σ.g,4,none⟩=some (.int .i64 (k:Int)):=(G6.out.cell 4).trans (by rw [<-HSL.out];rfl)
 have a36:W6.cell? ⟨σ.g,36,none⟩=some (.int .i64 (σ.r.next+(d:Int))):=G6.out.cell 36
 have l0:W6.cell? ⟨σ.lb,k,none⟩=some (pinV (sptr (some t))):=(S6.out.b.cell k).trans (pinsA_at (by rw [List.getElem?_map,HK0.out];rfl))
 have l1:W6.cell? ⟨σ.lb,k,none⟩=some (.pointer (some ⟨t.g,0,none⟩)):=l0
 have HLT:=hid (show (d:Int) < σ.r.need from by rw [HDN.out];omega)
 clear l0 hrem hdd hdl' hdn'
 go_wp2_with fail
 refine Mix.rt [0,0,0,0,0,0,0,0,0,0,0,0,0,0,0,0,0,0,2] [0,1,2,3,4,5,6,7,8,9,10,11,12,13,14,15,16,17,18] ?_
 repeat ((first | refine Mix.zq ?_ | refine Mix.zp ?_ | refine Mix.zs ?_);go_big_quiet_step (fail);refine wpQuiet_nil ?_)
 refine Mix.ze fun W7 hW7=>?_
 obtain ⟨k7,rfl⟩:=hW7
 go_wp2_with fail
 have G7:=m_rd (M6.out.drewN k7)
 have S7:=((m_sl (M6.out.drewN k7)).s k t HK0.out).b
 have T:=rdescend_any σ.g t.g _ _ t.x.at' (σ.r.next+(d:Int)) 106 _ G7 S7 rfl
 refine T.mono ?_
 intro e w8 h8
 have M8:=hid (m_set (M6.out.drewN k7) h8 rfl rfl)
 obtain ⟨rfl,_⟩:=h8
 clear G7 S7 T a2 a4 a36 l1 a35 r0
 go_wp2_with fail
 repeat ((first | refine Mix.zq ?_ | refine Mix.zp ?_ | refine Mix.zs ?_);go_big_quiet_step (fail);refine wpQuiet_nil ?_)
 intro k9
 go_wp2_with fail
 go_ret
 exact ⟨rfl,.inr ⟨rfl,d,rn,HRN.out,by rw [HDN.out];exact HD.out,.inl ⟨HLT.out,tv,M8.out.drewN k9⟩⟩⟩
 }
 ·have d1:decide ((hh:Int) > 0)=true:=decide_eq_true (by omega)
  have d2:decide (0 < (hh:Int))=true:=decide_eq_true (by omega)
  have d3:decide (0 < hh)=true:=decide_eq_true (by omega)
  go_wp2_with fail
  refine at_world fun W3 hW3=>?_
  have M3:=hid (show Mem B w0 (σ.L B++R) W3 from by rw [hW3];exact M2.out.alloc _)
  have R3:=hid (show Blk W3 w.heap.size 45 #[.pointer (some ⟨σ.g,0,none⟩)] from by rw [hW3];exact R2.out.alloc _)
  have r0:W3.cell? ⟨w.heap.size,0,none⟩=some (.pointer (some ⟨σ.g,0,none⟩)):=R3.out.cell 0
  have X3:=hid (show Blk W3 w2.heap.size 229 #[.int .i64 (hh:Int),.string s,.slice a kn c] from by rw [hW3];exact Blk.new w2 _ _)
  have C3:=hid (show Ch (fun _=>False) w2 W3 from by rw [hW3];exact (Ch.refl _ w2).alloc _)
  clear hW3
  obtain ⟨rn,hrn⟩:∃rn,rn=σ.r.rest:=⟨_,rfl⟩
  have HRN:=hid hrn
  obtain ⟨x0,x1,x2⟩:=X3.out.c3
  have a30:W3.cell? ⟨σ.g,30,none⟩=some (.int .i64 rn):=((m_rd M3.out).cell 30).trans (by rw [hrn];rfl)
  clear hrn
  refine Mix.rt [0,0,0,0,0,2,0,0,0,0,0,0,0] [0,1,2,3,4,5,6,7,8,9,10,11,12] ?_
  repeat ((first | refine Mix.zq ?_ | refine Mix.zp ?_ | refine Mix.zs ?_);go_big_quiet_step (fail);refine wpQuiet_nil ?_)
  refine Mix.ze fun W4 hW4=>?_
  obtain ⟨k4,rfl⟩:=hW4
  go_wp2_with fail
  refine calls_world fun W5 hW5=>?_
  have C5:=hid (show Ch (fun _=>False) W3 W5 from by rw [hW5];exact (Ch.refl _ W3).drewN k4)
  clear hW5 x0 x1 x2 a30 r0
  have HI5:=hid (HIN.out.keep (S':=fun b=>W1.heap.size<=b) (C3.out.trans C5.out (fun _ _ h=>h)) (fun _ _ _ h=>h) (fun _ _ h=>h))
  refine (nchild_any (fun b=>W1.heap.size<=b) ⟨hh,s,ks⟩ a kn c W5 HZ.out h0 HI5.out rn (by rw [HRN.out];exact HSU.out.1) (by rw [HRN.out];exact HSU.out.2)).mono ?_
  rintro e w6 ⟨ci,q,rfl,hch,hci,hq,hc⟩
  have HCH:=hid hch
  have C6:=hid (C5.out.trans hc (fun _ _ h=>h))
  have HI6:=hid (HI5.out.keep (S':=fun b=>W1.heap.size<=b) hc (fun _ _ _ h=>h) (fun _ _ h=>h))
  clear hch hc
  go_wp2_with fail
  repeat ((first | refine Mix.zq ?_ | refine Mix.zp ?_ | refine Mix.zs ?_);go_big_quiet_step (fail);refine wpQuiet_nil ?_)
  intro k7
  refine at_world fun W7 hW7=>?_
  have C7:=hid (show Ch (fun _=>False) w6 W7 from by rw [hW7];exact (Ch.refl _ w6).drewN k7)
  clear hW7
  have C37:=hid (C6.out.trans C7.out (fun _ _ h=>h))
  have M7:=hid (M3.out.keep C37.out)
  have X7:=hid (C37.out.blk X3.out id)
  have HI7:=hid (HI6.out.keep (S':=fun b=>W1.heap.size<=b) C7.out (fun _ _ _ h=>h) (fun _ _ h=>h))
  obtain ⟨x0,x1,x2⟩:=X7.out.c3
  have R7:=hid (C37.out.blk R3.out id)
  have r0:W7.cell? ⟨w.heap.size,0,none⟩=some (.pointer (some ⟨σ.g,0,none⟩)):=R7.out.cell 0
  have hkk:=HKN.out
  have hk4:=hid HZ.out.kl
  obtain ⟨k,hk⟩:∃k,ks[ci]?=some k:=⟨_,List.getElem?_eq_getElem (by omega)⟩
  have HK:=hid hk
  clear hk hkk
  go_wp2_with fail
  refine (down_any σ.g σ.r (fun b=>W1.heap.size<=b) (by omega) (hh:Int) s ks a kn c ci HCL.out q k HK.out (by have h4:ks.length<=4:=hk4.out;have:=HKN.out;omega) HZ.out.km (fun j hj=>HBS.out h0 j (show j < ks.length by have:=HKN.out;omega)) W7 (m_rd M7.out) HI7.out).mono ?_
  intro e w8 h8
  have M8:=hid (m_set M7.out h8 rfl rfl)
  obtain ⟨rfl,_⟩:=h8
  go_wp2_with fail
  go_ret
  exact ⟨rfl,.inl ⟨h0,ci,k,q,HK.out,HRN.out ▸ HCH.out,M8.out⟩⟩
end
def takenF (g:Nat):Value:=.func (.func 105) #[.pointer (some ⟨g,0,none⟩)] #[]
def Rd.read (g:Nat) (r:Rd) (x:Rv) (pos num:Int):Rd:=
 if num=0 then { r with tx:=.slice none 0 0,next:=pos,need:=num,ph:=1,dv:=takenF g }
 else { r with tx:=.slice none 0 0,next:=pos,need:=num,ph:=12,dv:=visF g,at':=x.at',rest:=pos,base:=⟨0,0,0⟩ }
theorem rread_any (g sg:Nat) (r:Rd) (x:Rv) (mv dv:Value) (ix cu pos num:Int) (w:World) (h:Blk w g 111 r.cells) (hsg:Blk w sg 144 #[.int .i64 x.num,.int .u64 x.at',.int .i64 x.h,.int .i64 x.b,.int .i64 x.r,.int .i64 x.l,mv,dv,.int .i64 ix,.int .i64 cu]) :
  Calls Tryz.prog 69 #[.pointer (some ⟨g,0,none⟩),.pointer (some ⟨sg,0,none⟩),.int .i64 pos,.int .i64 num] w (RdSet g (Rd.read g r x pos num) w (.tuple #[])):=by
 have H:=hid h
 have HSG:=hid hsg
 have c34:w.cell? ⟨g,34,none⟩=some r.tx:=h.cell 34
 have c35:w.cell? ⟨g,35,none⟩=some (.int .i64 r.need):=h.cell 35
 have c36:w.cell? ⟨g,36,none⟩=some (.int .i64 r.next):=h.cell 36
 have f34:=h.free 34
 have f35:=h.free 35
 have f36:=h.free 36
 have nsg:=hid (hsg.ne h (by decide))
 clear h hsg
 unfold Rd.read
 by_cases h0:num=0
 ·subst h0
  simp only [if_true]
  go_enter Tryz.func69,Tryz.ntmps69
  go_wp2_with fail
  refine calls_world fun W9 hW9=>?_
  have B9:=hid (show Blk W9 g 111 (Rd.cells { r with tx:=.slice none 0 0,next:=pos,need:=0 }) from by
   rw [hW9]
   exact Blk.as (((H.out.put 34 _).put 36 _).put 35 _) (by kernel_rfl))
  have C9:=hid (show Ch (fun b=>b=g) w W9 from by
   rw [hW9]
   exact (((Ch.refl (fun b=>b=g) w).set (fun _=>rfl) _).set (fun _=>rfl) _).set (fun _=>rfl) _)
  clear hW9
  refine (rthen_any g _ 1 105 _ _ W9 B9.out).mono ?_
  rintro e w10 ⟨rfl,hb,hc⟩
  go_wp2_with fail
  (try simp only [Exit.inBlock,Exit.then]);refine bodyPost_ret (results_none rfl _ _ _) rfl ?_
  exact ⟨rfl,hb,C9.out.trans hc (fun _ _ h=>h)⟩
 ·rw [if_neg h0]
  have d0:(num == 0)=false:=by rw [beq_eq_false_iff_ne];exact h0
  clear h0
  go_enter Tryz.func69,Tryz.ntmps69
  go_wp2_with fail
  refine calls_world fun W9 hW9=>?_
  have B9:=hid (show Blk W9 g 111 (Rd.cells { r with tx:=.slice none 0 0,next:=pos,need:=num }) from by
   rw [hW9]
   exact Blk.as (((H.out.put 34 _).put 36 _).put 35 _) (by kernel_rfl))
  have C9:=hid (show Ch (fun b=>b=g) w W9 from by
   rw [hW9]
   exact (((Ch.refl (fun b=>b=g) w).set (fun _=>rfl) _).set (fun _=>rfl) _).set (fun _=>rfl) _)
  clear hW9
  have T:=rdescend_any g sg _ _ x.at' pos 106 W9 B9.out (C9.out.blk HSG.out nsg.out) rfl
  refine T.mono ?_
  rintro e w10 ⟨rfl,hb,hc⟩
  go_wp2_with fail
  go_end0
  exact ⟨rfl,hb,C9.out.trans hc (fun _ _ h=>h)⟩
end Go.Proofs.YtjcdknhejcbpiaaGreat
