/- Lemmas; no condition. -/
import Derived.Test.YtjcdknhejcbpiaaGreatSb29
set_option maxRecDepth 100000
set_option maxHeartbeats 4000000
namespace Go.Proofs.YtjcdknhejcbpiaaGreat
open Go.RowKit
set_option linter.unusedVariables false
set_option linter.unusedSimpArgs false
set_option linter.unusedSectionVars false
section
variable {B:Nat} {w0 w:World} {R:List Res} {σ:RS} {y:Ly} {n m:Nat}
theorem visitLine_m (M:Mem B w0 (σ.L B++R) w) (O:σ.Ok y n m) (P:ArP σ.ns) {tx:List UInt8} (htx:tx.length<=1000000) {i:Nat} {nn:Int} (D:Dn (fun m=>m.l) tx σ.ns i nn (σ.r.rest - 1) σ.r.base) {z:An} (hi:σ.r.at'=hdl i) (hz:σ.ns[i]?=some z) :
  Calls Tryz.prog 72 #[.pointer (some ⟨σ.g,0,none⟩)] w (VisOut B w0 R σ (fun m=>m.l) 1 (fun l n=>((nthP (fun b=>b == 10) l n:Nat):Int)+1) i z):=by
 have zok:=P.ok z (List.mem_of_getElem? hz)
 have HV:=hid (visit_m M O hi hz (Nat.le_trans zok.kl (by decide)))
 have HZ:=hid zok
 have HM:=hid M
 have HBO:=hid (D.base_ok htx)
 have HBS:=hid (fun h0=>D.bases htx hz h0)
 have HSU:=hid (D.sum P hz)
 have HLE:=hid (fun h0=>D.leaf P hz h0)
 have lg:=(m_rd M).lt
 obtain ⟨⟨hh,s,ks⟩,za,zc⟩:=z
 simp only [Nd.v] at HV
 clear M O P D hi hz htx zok
 go_enter Tryz.func72,Tryz.ntmps72
 go_wp2_with fail
 refine HV.out.mono ?_
 rintro e w2 ⟨a,c,hcl,rfl,hin,hc⟩
 have M2:=hid (HM.out.keep hc)
 have L2:=hid hc.size
 obtain ⟨kn,hkn⟩:∃x,x=ks.length:=⟨_,rfl⟩
 rw [<-hkn] at hcl
 rw [<-hkn]
 have HKN:=hid hkn
 have HIN:=hid (show InP Kd.cells 4 w2 (fun b=>w.heap.size<=b) a kn ks from by rw [hkn];exact hin)
 have HCL:=hid hcl
 clear hin hc HV HM hkn hcl
 by_cases h0:hh=0
 ·subst h0
  go_wp2_with fail
  refine at_world fun W3 hW3=>?_
  have M3:=hid (show Mem B w0 (σ.L B++R) W3 from by rw [hW3];exact M2.out.alloc _)
  have X3:=hid (show Blk W3 w2.heap.size 229 #[.int .i64 ((0:Nat):Int),.string s,.slice a kn c] from by rw [hW3];exact Blk.new w2 _ _)
  clear hW3
  obtain ⟨rn,hrn⟩:∃rn:Nat,σ.r.rest=(rn:Int)+1:=⟨(σ.r.rest - 1).toNat,by have:=HSU.out.1;omega⟩
  have HRN:=hid hrn
  have hlt:=hid (show rn < cntP (fun b=>b == 10) (bs s) from by
   have t:=HSU.out.2
   rw [hrn] at t
   have u:(rn:Int)+1 - 1 < (mOf s).l:=t
   simp only [mOf] at u
   omega)
  have hbb:=HBO.out
  have hss:=hid HZ.out.sz
  have x1:W3.cell? ⟨w2.heap.size,1,none⟩=some (.string s):=X3.out.cell 1
  have a30:W3.cell? ⟨σ.g,30,none⟩=some (.int .i64 ((rn:Int)+1)):=((m_rd M3.out).cell 30).trans (by rw [<-hrn];rfl)
  clear hrn
  refine Mix.rt [0,0,0,0,0,0,2,0,0,0,0,0] [0,1,2,3,4,5,6,7,8,9,10,11] ?_
  repeat ((first | refine Mix.zq ?_ | refine Mix.zp ?_ | refine Mix.zs ?_);go_big_quiet_step (fail);refine wpQuiet_nil ?_)
  refine Mix.ze fun W4 hW4=>?_
  obtain ⟨k4,rfl⟩:=hW4
  go_wp2_with fail
  refine (mline_any s (Nat.le_trans hss.out (by decide)) rn hlt.out _).mono ?_
  rintro e w5 ⟨rfl,rfl⟩
  have hq1:=nthP_lt (fun b=>b == 10) (bs s) rn hlt.out
  rw [bs_length] at hq1
  have hq2:=hss.out
  obtain ⟨q,hq⟩:∃q,q=nthP (fun b=>b == 10) (bs s) rn:=⟨_,rfl⟩
  have HQ:=hid hq
  rw [<-hq] at hq1
  rw [<-hq]
  have hq3:q<=16:=by omega
  clear hq hq1 hq2
  go_wp2_with fail
  repeat ((first | refine Mix.zq ?_ | refine Mix.zp ?_ | refine Mix.zs ?_);go_big_quiet_step (fail);refine wpQuiet_nil ?_)
  intro k6
  refine at_world fun W6 hW6=>?_
  have M6:=hid (show Mem B w0 (σ.L B++R) W6 from by rw [hW6];exact (M3.out.drewN k4).drewN k6)
  clear hW6 x1 a30
  have a31:W6.cell? ⟨σ.g,31,none⟩=some (.int .i64 σ.r.base.b):=(m_rd M6.out).cell 31
  obtain ⟨bb0,bb1,bb2,bb3⟩:=hbb
  have bb4:0<=σ.r.base.b:=by omega
  go_wp2_with fail
  refine (rend_any σ.g σ.r { RsV.zero with at':=σ.r.base.b+((q:Int)+1) } W6 (m_rd M6.out)).mono ?_
  intro e w7 h7
  have M7:=hid (m_fin M6.out h7 rfl)
  obtain ⟨rfl,_⟩:=h7
  go_wp2_with fail
  go_ret
  refine ⟨rfl,.inr ⟨rfl,?_⟩⟩
  have eq1:(σ.r.rest - 1).toNat=rn:=by rw [HRN.out];omega
  simp only [eq1,<-HQ.out]
  exact M7.out
 ·have d1:decide ((hh:Int) > 0)=true:=decide_eq_true (by omega)
  have d2:decide (0 < (hh:Int))=true:=decide_eq_true (by omega)
  have d3:decide (0 < hh)=true:=decide_eq_true (by omega)
  go_wp2_with fail
  refine at_world fun W3 hW3=>?_
  have M3:=hid (show Mem B w0 (σ.L B++R) W3 from by rw [hW3];exact M2.out.alloc _)
  have X3:=hid (show Blk W3 w2.heap.size 229 #[.int .i64 (hh:Int),.string s,.slice a kn c] from by rw [hW3];exact Blk.new w2 _ _)
  have C3:=hid (show Ch (fun _=>False) w2 W3 from by rw [hW3];exact (Ch.refl _ w2).alloc _)
  clear hW3
  obtain ⟨rn,hrn⟩:∃rn,σ.r.rest=rn+1:=⟨σ.r.rest - 1,by omega⟩
  have HRN:=hid hrn
  obtain ⟨x0,x1,x2⟩:=X3.out.c3
  have a30:W3.cell? ⟨σ.g,30,none⟩=some (.int .i64 (rn+1)):=((m_rd M3.out).cell 30).trans (by rw [<-hrn];rfl)
  clear hrn
  refine Mix.rt [0,0,0,0,0,2,0,0,0,0,0,0,0] [0,1,2,3,4,5,6,7,8,9,10,11,12] ?_
  repeat ((first | refine Mix.zq ?_ | refine Mix.zp ?_ | refine Mix.zs ?_);go_big_quiet_step (fail);refine wpQuiet_nil ?_)
  refine Mix.ze fun W4 hW4=>?_
  obtain ⟨k4,rfl⟩:=hW4
  go_wp2_with fail
  refine calls_world fun W5 hW5=>?_
  have C5:=hid (show Ch (fun _=>False) W3 W5 from by rw [hW5];exact (Ch.refl _ W3).drewN k4)
  clear hW5 x0 x1 x2 a30
  have HI5:=hid (HIN.out.keep (S':=fun b=>w.heap.size<=b) (C3.out.trans C5.out (fun _ _ h=>h)) (fun _ _ _ h=>h) (fun _ _ h=>h))
  refine (nline_any (fun b=>w.heap.size<=b) ⟨hh,s,ks⟩ a kn c W5 HZ.out h0 HI5.out rn (by have t:=HSU.out.1;rw [HRN.out] at t;omega) (by have t:=HSU.out.2;rw [HRN.out,Int.add_sub_cancel] at t;exact t)).mono ?_
  rintro e w6 ⟨ci,q,rfl,hch,hci,hq,hc⟩
  have HCH:=hid hch
  have C6:=hid (C5.out.trans hc (fun _ _ h=>h))
  have HI6:=hid (HI5.out.keep (S':=fun b=>w.heap.size<=b) hc (fun _ _ _ h=>h) (fun _ _ h=>h))
  clear hch hc
  go_wp2_with fail
  repeat ((first | refine Mix.zq ?_ | refine Mix.zp ?_ | refine Mix.zs ?_);go_big_quiet_step (fail);refine wpQuiet_nil ?_)
  intro k7
  refine at_world fun W7 hW7=>?_
  have C7:=hid (show Ch (fun _=>False) w6 W7 from by rw [hW7];exact (Ch.refl _ w6).drewN k7)
  clear hW7
  have C37:=hid (C6.out.trans C7.out (fun _ _ h=>h))
  have M7:=hid (M3.out.keep C37.out)
  have X7:=hid (C37.out.blk X3.out id)
  have HI7:=hid (HI6.out.keep (S':=fun b=>w.heap.size<=b) C7.out (fun _ _ _ h=>h) (fun _ _ h=>h))
  obtain ⟨x0,x1,x2⟩:=X7.out.c3
  have hkk:=HKN.out
  have hk4:=hid HZ.out.kl
  obtain ⟨k,hk⟩:∃k,ks[ci]?=some k:=⟨_,List.getElem?_eq_getElem (by omega)⟩
  have HK:=hid hk
  clear hk hkk
  go_wp2_with fail
  refine (down_any σ.g σ.r (fun b=>w.heap.size<=b) (by omega) (hh:Int) s ks a kn c ci HCL.out (q+1) k HK.out (by have h4:ks.length<=4:=hk4.out;have:=HKN.out;omega) HZ.out.km (fun j hj=>HBS.out h0 j (show j < ks.length by have:=HKN.out;omega)) W7 (m_rd M7.out) HI7.out).mono ?_
  intro e w8 h8
  have M8:=hid (m_set M7.out h8 rfl rfl)
  obtain ⟨rfl,_⟩:=h8
  go_wp2_with fail
  go_ret
  refine ⟨rfl,.inl ⟨h0,ci,k,q,HK.out,?_,?_⟩⟩
  ·rw [HRN.out,Int.add_sub_cancel];exact HCH.out
  ·exact M8.out
end
end Go.Proofs.YtjcdknhejcbpiaaGreat
