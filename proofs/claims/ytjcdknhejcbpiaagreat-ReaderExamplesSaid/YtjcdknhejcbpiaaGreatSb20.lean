/- Lemmas; no condition. -/
import Derived.Test.YtjcdknhejcbpiaaGreatSb19
import Derived.Test.YtjcdknhejcbpiaaGreatSb09
set_option maxRecDepth 100000
set_option maxHeartbeats 4000000
namespace Go.Proofs.YtjcdknhejcbpiaaGreat
open Go.RowKit
set_option linter.unusedVariables false
set_option linter.unusedSimpArgs false
set_option linter.unusedSectionVars false
def RopeOut (A:ArA) (ns:List An) (st:Int) (t:T) (w:World) (e:Ending) (w':World):Prop:=∃(ys:List An),e=.returned (.tuple #[t.rv (hdl (ns.length+(t.cnt - 1))),.int .i64 0])/\ArM A w' (ns++ys) st/\ArP (ns++ys)/\ys.length=t.cnt/\
 (∀(j:Nat) (y:An),ys[j]?=some y->∃sp,(T.post 0 t)[j]?=some sp/\y.x=sp.nd ns.length (T.post 0 t))/\Ch A.mut w w'/\∀y ∈ ys,∀b,y.kb b->w.heap.size<=b
theorem rope_new (A:ArA) (ns:List An) (st:Int) (s:ByteArray) (t:T) (w:World) (h:ArM A w ns st) (hP:ArP ns) (h0:0 < s.size) (hs:s.size<=65536) (ht:buildT s=[t]) (hc:t.cnt<=60000) (hroom:t.cnt<=A.n - ns.length) (hn:A.n<=16384) :
  Calls Tryz.prog 47 #[.pointer (some ⟨A.ab,0,none⟩),.string s] w (RopeOut A ns st t w):=by
 obtain ⟨t',ht',hg,hb⟩:=build_good h0 hs
 rw [ht] at ht'
 injection ht' with ht' _
 subst ht'
 have H:=hid h
 have HP:=hid hP
 have HG:=hid hg
 have HB:=hid hb
 have HC:=hid hc
 have HR:=hid hroom
 have HN:=hid hn
 have HT:=hid ht
 have HS0:=hid h0
 have HS:=hid hs
 clear h hP hg hb hc hroom hn ht h0 hs
 go_enter Tryz.func47,Tryz.ntmps47
 go_wp2_with fail
 refine calls_world fun W1 hW1=>?_
 have C1:=hid (show Ch (fun _=>False) w W1 from by rw [hW1];exact (Ch.refl _ w).alloc _)
 have R1:=hid (show Blk W1 w.heap.size 102 #[.int .u64 0,.int .i64 0,.int .i64 0,.int .i64 0,.int .i64 0] from by rw [hW1];exact Blk.new w _ _)
 clear hW1
 refine (build_any s HS.out W1).mono ?_
 rintro e W2 ⟨cs,rfl,hc2,hcs⟩
 have hT:TreeAt W2 (fun k=>W1.heap.size<=k) t cs:=by
  rcases hcs with ⟨e0,_⟩ | ⟨t',e1,e2⟩
  ·have:=HS0.out;omega
  ·rw [HT.out] at e1
   injection e1 with e1 _
   subst e1
   exact e2
 obtain ⟨cs0,ca,cn,cc,rfl⟩:=hT.form
 have T2:=hid hT
 have C2:=hid (C1.out.trans hc2 (fun _ _ e=>e))
 have R2:=hid (hc2.blk R1.out id)
 clear hT hcs hc2 C1 R1
 go_wp2_with fail
 refine calls_world fun W3 hW3=>?_
 have D3:=hid (show Ch (fun _=>False) W2 W3 from by rw [hW3];exact (Ch.refl _ W2).alloc _)
 have C3:=hid (C2.out.trans D3.out (fun _ _ e=>e))
 have R3:=hid (D3.out.blk R2.out id)
 have T3:=hid (T2.out.keep D3.out (fun _ _ _=>id) (fun _ _ h=>h) (S':=fun k=>W1.heap.size<=k))
 have A3:=hid (H.out.keep0 C3.out)
 clear hW3 D3 R2 C2 T2
 refine (write_any A ns st t _ _ W3 A3.out HP.out HG.out T3.out (by rw [HB.out];exact HS.out) HC.out HR.out HN.out).mono ?_
 rintro e W4 ⟨ys,v,rfl,ho,hM,hP4,hyl,hyx,hC4,hky⟩
 have M4:=hid hM
 have P4:=hid hP4
 have YL:=hid hyl
 have YX:=hid hyx
 have C4:=hid hC4
 have KY:=hid hky
 obtain ⟨va,vc,hv,_⟩:=own_slice ho
 subst hv
 have hsz3:=C3.out.size
 have R4:=hid (hC4.blk R3.out (A3.out.off R3.out (by decide) (by decide) (by decide)))
 clear ho hM hP4 hyl hyx hC4 hky
 obtain ⟨H1,hH1⟩:∃x:Int,x=hdl (ns.length+(t.cnt - 1)):=⟨_,rfl⟩
 obtain ⟨rm,hrm⟩:∃x,x=t.meas:=⟨_,rfl⟩
 obtain ⟨rh,hrh⟩:∃x,x=t.ht:=⟨_,rfl⟩
 have hrv:t.rv (hdl (ns.length+(t.cnt - 1)))=.agg #[.int .u64 H1,.int .i64 (rh:Int),.int .i64 rm.b,.int .i64 rm.r,.int .i64 rm.l]:=by rw [hH1,hrm,hrh];rfl
 rw [hrv]
 have HRV:=hid hrv
 clear hH1 hrm hrv
 have HRH:=hid hrh
 clear hrh
 obtain ⟨z0,z1,z2,z3,z4⟩:=R4.out.c5
 obtain ⟨f0,f1,f2,f3,f4⟩:=R4.out.f5
 have hwl:w.heap.size < W4.heap.size:=R4.out.lt
 go_wp2_with fail
 refine at_world fun WZ hWZ=>?_
 have CZ:=hid (show Ch (fun k=>k=w.heap.size) W4 WZ from by rw [hWZ];exact (((((((Ch.refl (fun k=>k=w.heap.size) W4).set (fun _=>rfl) _).set (fun _=>rfl) _).set (fun _=>rfl) _).set (fun _=>rfl) _).set (fun _=>rfl) _).alloc _))
 have BZ:=hid (show Blk WZ w.heap.size 102 #[.int .u64 H1,.int .i64 (rh:Int),.int .i64 rm.b,.int .i64 rm.r,.int .i64 rm.l] from by rw [hWZ];exact ((((((R4.out.put 0 _).put 1 _).put 2 _).put 3 _).put 4 _).alloc _))
 clear hWZ z0 z1 z2 z3 z4 f0 f1 f2 f3 f4
 obtain ⟨t0,t1,t2,t3,t4⟩:=BZ.out.c5
 have hr5:∀b,A.foot (ns++ys) b->¬b=w.heap.size:=fun b hf e=>by
  rw [e] at hf
  rcases hf with hf | hf | hf | ⟨z,hz,hf⟩
  ·exact M4.out.off R4.out (by decide) (by decide) (by decide) hf
  ·exact Blk.ne R4.out M4.out.b0 (by decide) hf
  ·exact Blk.ne R4.out M4.out.b2 (by decide) hf
  ·rcases List.mem_append.1 hz with hz | hz
   ·have:=H.out.foot_lt (.inr (.inr (.inr ⟨z,hz,hf⟩)))
    omega
   ·have:=KY.out z hz _ hf
    have:=R3.out.lt
    omega
 refine bodyPost_ret (v:=.tuple #[.agg #[.int .u64 H1,.int .i64 (rh:Int),.int .i64 rm.b,.int .i64 rm.r,.int .i64 rm.l],.int .i64 0]) (by simp [results,Tryz.results47,go_sem,t0,t1,t2,t3,t4]) rfl ⟨ys,by rw [HRV.out],M4.out.keep CZ.out (fun b _ hf=>hr5 b hf),P4.out,YL.out,YX.out,((C3.out.mono (fun _ _ e=>e.elim)).trans C4.out (fun _ _ e=>e)).trans CZ.out (fun i hi e=>absurd hi (by omega)),fun y hy b hb=>by have:=KY.out y hy b hb;omega⟩
end Go.Proofs.YtjcdknhejcbpiaaGreat
namespace Go.Proofs.YtjcdknhejcbpiaaGreat
open Go.RowKit
set_option linter.unusedVariables false
set_option linter.unusedSimpArgs false
set_option linter.unusedSectionVars false
theorem begin_no (A:ArA) (ns:List An) (st:Int) (t:T) (cs:List Value) (S:Nat->Prop) (w:World) (h:ArM A w ns st) (hP:ArP ns) (hg:t.good) (hT:TreeAt w S t cs) (hb:t.bytes<=65536) (hc:t.cnt<=60000) (hroom:A.n - ns.length < t.cnt) (hn:A.n<=16384) :
  Calls Tryz.prog 119 #[.pointer (some ⟨A.ab,0,none⟩),.agg cs.toArray] w fun e w'=>e=.returned (.tuple #[.pointer none,.int .i64 6])/\Ch (fun _=>False) w w':=by
 obtain ⟨s,a,n,c,rfl⟩:=hT.form
 have d1:decide (A.n - ns.length < t.cnt)=true:=decide_eq_true (by omega)
 have d2:decide (((A.n - ns.length:Nat):Int) < (t.cnt:Int))=true:=decide_eq_true (by omega)
 obtain ⟨F,hF⟩:∃F,F=A.n - ns.length:=⟨_,rfl⟩
 rw [<-hF] at d1 d2
 obtain ⟨TC,hTC⟩:∃x,x=t.cnt:=⟨_,rfl⟩
 rw [<-hTC] at d1 d2
 have H:=hid h
 have HP:=hid hP
 have HG:=hid hg
 have HT:=hid hT
 have HF:=hid hF
 have HTC:=hid hTC
 have HB:=hid hb
 have HC:=hid hc
 clear h hP hT hg hF hTC hroom hb hc
 go_enter Tryz.func119,Tryz.ntmps119
 go_wp2_with fail
 refine calls_world fun W1 hW1=>?_
 have C1:=hid (show Ch (fun _=>False) w W1 from by rw [hW1];exact (Ch.refl _ w).alloc _)
 have T1:=hid (HT.out.keep C1.out (fun _ _ _=>id) (fun _ _ h=>h) (S':=S))
 have K1:=hid (show Blk W1 w.heap.size 183 #[.int .u64 0,.int .i64 (Int.ofNat t.ht),.int .i64 0,.int .i64 0,.int .i64 0,.string s,.slice a n c] from by rw [hW1];exact Blk.new w _ _)
 clear hW1
 refine (pcheck_any A.ab t _ W1 S HG.out T1.out HB.out).mono ?_
 rintro e W2 ⟨rfl,hc2⟩
 have C2:=hid (C1.out.trans hc2 (fun _ _ e=>e))
 have K2:=hid (hc2.blk K1.out id)
 have T2:=hid (T1.out.keep hc2 (fun _ _ _=>id) (fun _ _ h=>h) (S':=S))
 clear hc2 C1 T1 K1
 obtain ⟨k0,k1,k2,k3,k4,k5,k6⟩:=K2.out.c7
 go_wp2_with fail
 refine (gnew_any t _ W2 S HG.out T2.out (by have:=HC.out;omega)).mono ?_
 rintro e W3 ⟨rfl,hc3⟩
 have C3:=hid (C2.out.trans hc3 (fun _ _ e=>e))
 have K3:=hid (hc3.blk K2.out id)
 have T3:=hid (T2.out.keep hc3 (fun _ _ _=>id) (fun _ _ h=>h) (S':=S))
 clear hc3 C2 T2 K2 k0 k1 k2 k3 k4 k5 k6
 rw [<-HTC.out]
 go_wp2_with fail
 refine (statsM A ns st hn W3 (H.out.keep0 C3.out)).mono ?_
 rintro e W4 ⟨rfl,hc4⟩
 rw [<-HF.out]
 have C4:=hid (C3.out.trans hc4 (fun _ _ e=>e))
 have K4:=hid (hc4.blk K3.out id)
 have T4:=hid (T3.out.keep hc4 (fun _ _ _=>id) (fun _ _ h=>h) (S':=S))
 clear hc4 C3 T3 K3
 obtain ⟨k0,k1,k2,k3,k4,k5,k6⟩:=K4.out.c7
 have hfd:∀W,(Instr.field 97 (.agg #[.int .i64 (A.n:Int),.int .i64 (F:Int),.int .i64 (ns.length:Int),.int .i64 0,.int .i64 (ns.length:Int),.int .i64 0,.int .i64 st]) 1).run Tryz.prog W=.ok (.int .i64 (F:Int)) W:=fun W=>by kernel_rfl
 go_wp2_with fail
 go_ret2
 exact ⟨rfl,C4.out⟩
theorem write_no (A:ArA) (ns:List An) (st:Int) (t:T) (cs:List Value) (S:Nat->Prop) (w:World) (h:ArM A w ns st) (hP:ArP ns) (hg:t.good) (hT:TreeAt w S t cs) (hb:t.bytes<=65536) (hc:t.cnt<=60000) (hroom:A.n - ns.length < t.cnt) (hn:A.n<=16384) :
  Calls Tryz.prog 81 #[.pointer (some ⟨A.ab,0,none⟩),.agg cs.toArray] w fun e w'=>e=.returned (.tuple #[.agg #[.int .u64 0,.int .i64 0,.int .i64 0,.int .i64 0,.int .i64 0],.slice none 0 0,.int .i64 6])/\Ch (fun _=>False) w w':=by
 obtain ⟨s,a,n,c,rfl⟩:=hT.form
 have H:=hid h
 have HP:=hid hP
 have HG:=hid hg
 have HT:=hid hT
 have HB:=hid hb
 have HC:=hid hc
 have HR:=hid hroom
 have HN:=hid hn
 clear h hP hT hg hroom hb hc hn
 go_enter Tryz.func81,Tryz.ntmps81
 go_wp2_with fail
 refine calls_world fun W1 hW1=>?_
 obtain ⟨b0,hb0⟩:∃x,x=w.heap.size:=⟨_,rfl⟩
 have C1:=hid (show Ch (fun _=>False) w W1 from by rw [hW1];exact ((Ch.refl _ w).alloc _).alloc _)
 have R1:=hid (show Blk W1 (b0+1) 102 #[.int .u64 0,.int .i64 0,.int .i64 0,.int .i64 0,.int .i64 0] from by
  rw [hW1,hb0]
  have t:=Blk.new (w.alloc (.cells #[.int .u64 0,.int .i64 (Int.ofNat t.ht),.int .i64 0,.int .i64 0,.int .i64 0,.string s,.slice a n c] 183)) 102 #[.int .u64 0,.int .i64 0,.int .i64 0,.int .i64 0,.int .i64 0]
  simpa using t)
 have T1:=hid (HT.out.keep C1.out (fun _ _ _=>id) (fun _ _ h=>h) (S':=S))
 clear hW1
 rw [show w.heap.size+1=b0+1 by omega,<-hb0]
 have HZ:=hid hb0
 clear hb0
 refine (begin_no A ns st t _ S W1 (H.out.keep0 C1.out) HP.out HG.out T1.out HB.out HC.out HR.out HN.out).mono ?_
 rintro e W2 ⟨rfl,hc2⟩
 have C2:=hid (C1.out.trans hc2 (fun _ _ e=>e))
 have R2:=hid (hc2.blk R1.out id)
 clear hc2 R1 T1 C1
 obtain ⟨z0,z1,z2,z3,z4⟩:=R2.out.c5
 obtain ⟨f0,f1,f2,f3,f4⟩:=R2.out.f5
 go_wp2_with fail
 refine at_world fun WZ hWZ=>?_
 have CZ:=hid (show Ch (fun k=>k=b0+1) W2 WZ from by rw [hWZ];exact ((((((Ch.refl (fun k=>k=b0+1) W2).set (fun _=>rfl) _).set (fun _=>rfl) _).set (fun _=>rfl) _).set (fun _=>rfl) _).set (fun _=>rfl) _))
 have BZ:=hid (show Blk WZ (b0+1) 102 #[.int .u64 0,.int .i64 0,.int .i64 0,.int .i64 0,.int .i64 0] from by rw [hWZ];exact (((((R2.out.put 0 _).put 1 _).put 2 _).put 3 _).put 4 _))
 clear hWZ z0 z1 z2 z3 z4 f0 f1 f2 f3 f4
 obtain ⟨t0,t1,t2,t3,t4⟩:=BZ.out.c5
 refine bodyPost_ret (v:=.tuple #[.agg #[.int .u64 0,.int .i64 0,.int .i64 0,.int .i64 0,.int .i64 0],.slice none 0 0,.int .i64 6]) (by simp [results,Tryz.results81,go_sem,t0,t1,t2,t3,t4]) rfl ⟨rfl,C2.out.trans CZ.out (fun i hi e=>absurd hi (by have:=HZ.out;omega))⟩
theorem rope_no (A:ArA) (ns:List An) (st:Int) (s:ByteArray) (t:T) (w:World) (h:ArM A w ns st) (hP:ArP ns) (h0:0 < s.size) (hs:s.size<=65536) (ht:buildT s=[t]) (hc:t.cnt<=60000) (hroom:A.n - ns.length < t.cnt) (hn:A.n<=16384) :
  Calls Tryz.prog 47 #[.pointer (some ⟨A.ab,0,none⟩),.string s] w fun e w'=>e=.returned (.tuple #[.agg #[.int .u64 0,.int .i64 0,.int .i64 0,.int .i64 0,.int .i64 0],.int .i64 6])/\Ch (fun _=>False) w w':=by
 obtain ⟨t',ht',hg,hb⟩:=build_good h0 hs
 rw [ht] at ht'
 injection ht' with ht' _
 subst ht'
 have H:=hid h
 have HP:=hid hP
 have HG:=hid hg
 have HB:=hid hb
 have HC:=hid hc
 have HR:=hid hroom
 have HN:=hid hn
 have HT:=hid ht
 have HS0:=hid h0
 have HS:=hid hs
 clear h hP hg hb hc hroom hn ht h0 hs
 go_enter Tryz.func47,Tryz.ntmps47
 go_wp2_with fail
 refine calls_world fun W1 hW1=>?_
 have C1:=hid (show Ch (fun _=>False) w W1 from by rw [hW1];exact (Ch.refl _ w).alloc _)
 have R1:=hid (show Blk W1 w.heap.size 102 #[.int .u64 0,.int .i64 0,.int .i64 0,.int .i64 0,.int .i64 0] from by rw [hW1];exact Blk.new w _ _)
 clear hW1
 refine (build_any s HS.out W1).mono ?_
 rintro e W2 ⟨cs,rfl,hc2,hcs⟩
 have hT:TreeAt W2 (fun k=>W1.heap.size<=k) t cs:=by
  rcases hcs with ⟨e0,_⟩ | ⟨t',e1,e2⟩
  ·have:=HS0.out;omega
  ·rw [HT.out] at e1
   injection e1 with e1 _
   subst e1
   exact e2
 obtain ⟨cs0,ca,cn,cc,rfl⟩:=hT.form
 have T2:=hid hT
 have C2:=hid (C1.out.trans hc2 (fun _ _ e=>e))
 have R2:=hid (hc2.blk R1.out id)
 clear hT hcs hc2 C1 R1
 go_wp2_with fail
 refine calls_world fun W3 hW3=>?_
 have D3:=hid (show Ch (fun _=>False) W2 W3 from by rw [hW3];exact (Ch.refl _ W2).alloc _)
 have C3:=hid (C2.out.trans D3.out (fun _ _ e=>e))
 have R3:=hid (D3.out.blk R2.out id)
 have T3:=hid (T2.out.keep D3.out (fun _ _ _=>id) (fun _ _ h=>h) (S':=fun k=>W1.heap.size<=k))
 have A3:=hid (H.out.keep0 C3.out)
 clear hW3 D3 R2 C2 T2
 refine (write_no A ns st t _ _ W3 A3.out HP.out HG.out T3.out (by rw [HB.out];exact HS.out) HC.out HR.out HN.out).mono ?_
 rintro e W4 ⟨rfl,hC4⟩
 have C4:=hid (C3.out.trans hC4 (fun _ _ e=>e))
 have R4:=hid (hC4.blk R3.out id)
 clear hC4
 obtain ⟨z0,z1,z2,z3,z4⟩:=R4.out.c5
 obtain ⟨f0,f1,f2,f3,f4⟩:=R4.out.f5
 have hwl:w.heap.size < W4.heap.size:=R4.out.lt
 go_wp2_with fail
 refine at_world fun WZ hWZ=>?_
 have CZ:=hid (show Ch (fun k=>k=w.heap.size) W4 WZ from by rw [hWZ];exact (((((((Ch.refl (fun k=>k=w.heap.size) W4).set (fun _=>rfl) _).set (fun _=>rfl) _).set (fun _=>rfl) _).set (fun _=>rfl) _).set (fun _=>rfl) _).alloc _))
 have BZ:=hid (show Blk WZ w.heap.size 102 #[.int .u64 0,.int .i64 0,.int .i64 0,.int .i64 0,.int .i64 0] from by rw [hWZ];exact ((((((R4.out.put 0 _).put 1 _).put 2 _).put 3 _).put 4 _).alloc _))
 clear hWZ z0 z1 z2 z3 z4 f0 f1 f2 f3 f4
 obtain ⟨t0,t1,t2,t3,t4⟩:=BZ.out.c5
 refine bodyPost_ret (v:=.tuple #[.agg #[.int .u64 0,.int .i64 0,.int .i64 0,.int .i64 0,.int .i64 0],.int .i64 6]) (by simp [results,Tryz.results47,go_sem,t0,t1,t2,t3,t4]) rfl ⟨rfl,C4.out.trans CZ.out (fun i hi e=>absurd hi (by omega))⟩
theorem ArM.st {A:ArA} {w:World} (h:ArM A w [] 0):∃xs,StM w A.ab A.n A.lb A.mb A.g0 A.g1 xs:=by
 have e:fillA (fun _=>Value.int .u8 1) (.int .u8 0) A.n 0=fillA (fun _=>.int .u8 0) (.int .u8 0) A.n A.n:=by simp [fillA]
 refine ⟨(List.range A.n).map (fun i:Nat=>(A.n:Int) - 1 - i),h.a,?_,h.l.lt,h.l.cell 0,h.l.cell 1,?_,?_,by simp⟩
 ·obtain ⟨bs,hl,hm⟩:=h.m
  simpa [entsF] using hm
 ·have:=h.b0
  rw [fill_i64s (fun i:Nat=>(A.n:Int) - 1 - i)] at this
  exact this
 ·have t:=h.b1
  rw [show ([]:List An).length=0 from rfl,e] at t
  exact t
theorem rope_zero (A:ArA) (w:World) (h:ArM A w [] 0) (hn:A.n<=16384):Calls Tryz.prog 47 #[.pointer (some ⟨A.ab,0,none⟩),.string ⟨#[]⟩] w fun e w'=>e=.returned (.tuple #[.agg #[.int .u64 0,.int .i64 0,.int .i64 0,.int .i64 0,.int .i64 0],.int .i64 0])/\Ch (fun _=>False) w w':=by
 obtain ⟨xs,hS⟩:=h.st
 exact rnew0 A.ab A.n A.lb A.mb A.g0 A.g1 xs hn w hS
end Go.Proofs.YtjcdknhejcbpiaaGreat
namespace Go.Proofs.YtjcdknhejcbpiaaGreat
open Go.RowKit
set_option linter.unusedVariables false
set_option linter.unusedSimpArgs false
theorem fit_cnt (t:T):∀h,T.fit h t->4 * (t.cnt+1)<=t.bytes:=by
 induction t using T.ind with
 | hl s=>
  intro h hf
  obtain ⟨_,h1,h2⟩:=fit_leaf hf
  simp only [T.cnt,T.bytes]
  omega
 | hn k ks ih=>
  intro h hf
  obtain ⟨m,rfl,rfl,h1,h2,h3⟩:=fit_node hf
  have key:∀l:List T,(∀t ∈ l,4 * (t.cnt+1)<=t.bytes)->4 * (T.cntL l+l.length)<=T.bytesL l:=by
   intro l
   induction l with
   | nil=>intro _;simp [T.bytesL,T.cntL]
   | cons t ts ih'=>
    intro hl
    have a:=ih' (fun t ht=>hl t (by simp [ht]))
    have b:=hl t (by simp)
    simp only [T.bytesL,T.cntL,List.length_cons]
    omega
  have:=key ks (fun t ht=>ih t ht m (h3 t ht))
  simp only [T.cnt,T.bytes]
  omega
theorem good_cnt {t:T} (hg:t.good) (hb:t.bytes<=65536):t.cnt<=60000:=by
 rcases hg with ⟨s,rfl,_,_⟩ | ⟨h,_,hf⟩
 ·simp [T.cnt]
 ·have:=fit_cnt t h hf
  omega
def rootZ:Value:=.agg #[.int .u64 0,.int .i64 0,.int .i64 0,.int .i64 0,.int .i64 0]
def RopeAny (A:ArA) (s:ByteArray) (w:World) (e:Ending) (w':World):Prop:=
 (s.size=0/\e=.returned (.tuple #[rootZ,.int .i64 0])/\Ch (fun _=>False) w w')\/
 (0 < s.size/\∃t,buildT s=[t]/\t.good/\t.bytes=s.size/\((t.cnt<=A.n/\RopeOut A [] 0 t w e w')\/(A.n < t.cnt/\e=.returned (.tuple #[rootZ,.int .i64 6])/\Ch (fun _=>False) w w')))
theorem rope_any (A:ArA) (s:ByteArray) (w:World) (h:ArM A w [] 0) (hs:s.size<=65536) (hn:A.n<=16384):Calls Tryz.prog 47 #[.pointer (some ⟨A.ab,0,none⟩),.string s] w (RopeAny A s w):=by
 by_cases h0:s.size=0
 ·have hz:s=⟨#[]⟩:=by
   cases s with
   | mk d=>
    have:d.size=0:=h0
    rw [Array.size_eq_zero_iff] at this
    rw [this]
  subst hz
  exact (rope_zero A w h hn).mono fun e w' q=>.inl ⟨rfl,q⟩
 ·have hp:0 < s.size:=by omega
  obtain ⟨t,ht,hg,hb⟩:=build_good hp hs
  have hc:=good_cnt hg (by omega)
  by_cases hr:t.cnt<=A.n
  ·exact (rope_new A [] 0 s t w h ArP.nil hp hs ht hc (by simpa using hr) hn).mono fun e w' q=>.inr ⟨hp,t,ht,hg,hb,.inl ⟨hr,q⟩⟩
  ·exact (rope_no A [] 0 s t w h ArP.nil hp hs ht hc (by simp;omega) hn).mono fun e w' q=>.inr ⟨hp,t,ht,hg,hb,.inr ⟨by omega,q⟩⟩
end Go.Proofs.YtjcdknhejcbpiaaGreat
namespace Go.Proofs.YtjcdknhejcbpiaaGreat
open Go.RowKit
set_option linter.unusedVariables false
set_option linter.unusedSimpArgs false
structure Rt where
 a:Int
 h:Int
 b:Int
 r:Int
 l:Int
def Rt.v (x:Rt):Value:=.agg #[.int .u64 x.a,.int .i64 x.h,.int .i64 x.b,.int .i64 x.r,.int .i64 x.l]
def RopeRes (N:Nat) (s:ByteArray) (x:Rt) (en:Int) (ns:List An):Prop:=
 (s.size=0/\x=⟨0,0,0,0,0⟩/\en=0/\ns=[])\/
 (0 < s.size/\∃t,buildT s=[t]/\t.good/\t.bytes=s.size/\
  ((t.cnt<=N/\x=⟨hdl (t.cnt - 1),t.ht,t.meas.b,t.meas.r,t.meas.l⟩/\en=0/\ns.length=t.cnt/\(∀(j:Nat) (y:An),ns[j]?=some y->∃sp,(T.post 0 t)[j]?=some sp/\y.x=sp.nd 0 (T.post 0 t)))\/
   (N < t.cnt/\x=⟨0,0,0,0,0⟩/\en=6/\ns=[])))
def RopeMem (A:ArA) (s:ByteArray) (x:Rt) (en:Int) (w w':World):Prop:=∃ns,RopeRes A.n s x en ns/\ArM A w' ns 0/\ArP ns/\Ch A.mut w w'/\∀y ∈ ns,∀b,y.kb b->w.heap.size<=b
theorem rope_mem (A:ArA) (s:ByteArray) (w:World) (h:ArM A w [] 0) (hs:s.size<=65536) (hn:A.n<=16384):Calls Tryz.prog 47 #[.pointer (some ⟨A.ab,0,none⟩),.string s] w fun e w'=>∃x en,e=.returned (.tuple #[Rt.v x,.int .i64 en])/\RopeMem A s x en w w':=by
 refine (rope_any A s w h hs hn).mono ?_
 rintro e w' (⟨h0,rfl,hc⟩ | ⟨h0,t,ht,hg,hb,⟨h1,ys,rfl,hM,hP,hl,hy,hc,hk⟩ | ⟨h1,rfl,hc⟩⟩)
 ·exact ⟨⟨0,0,0,0,0⟩,0,rfl,[],.inl ⟨h0,rfl,rfl,rfl⟩,h.keep0 hc,ArP.nil,hc.mono (fun _ _ e=>e.elim),fun y hy=>by simp at hy⟩
 ·refine ⟨⟨hdl (t.cnt - 1),t.ht,t.meas.b,t.meas.r,t.meas.l⟩,0,by simp [Rt.v,T.rv],ys,.inr ⟨h0,t,ht,hg,hb,.inl ⟨h1,rfl,rfl,hl,fun j y hj=>?_⟩⟩,hM,hP,hc,hk⟩
  obtain ⟨sp,a,b⟩:=hy j y hj
  exact ⟨sp,a,b⟩
 ·exact ⟨⟨0,0,0,0,0⟩,6,rfl,[],.inr ⟨h0,t,ht,hg,hb,.inr ⟨h1,rfl,rfl,rfl⟩⟩,h.keep0 hc,ArP.nil,hc.mono (fun _ _ e=>e.elim),fun y hy=>by simp at hy⟩
theorem RopeMem.keep {A:ArA} {s:ByteArray} {x:Rt} {en:Int} {w w1 w2:World} {fp:Nat->Prop} (h:RopeMem A s x en w w1) (c:Ch fp w1 w2) (hf:∀k,k < w1.heap.size->A.foot [] k->¬fp k) (hk:∀k,fp k->k < w.heap.size\/w1.heap.size<=k) (hn:∀k,k < w.heap.size->¬fp k):RopeMem A s x en w w2:=by
 obtain ⟨ns,h1,h2,h3,h4,h5⟩:=h
 refine ⟨ns,h1,h2.keep c (fun k hk' hf' e=>?_),h3,h4.trans c (fun i hi e=>absurd e (hn i hi)),h5⟩
 rcases hf' with hf' | hf' | hf' | ⟨y,hy,hf'⟩
 ·exact hf k hk' (.inl hf') e
 ·exact hf k hk' (.inr (.inl hf')) e
 ·exact hf k hk' (.inr (.inr (.inl hf'))) e
 ·have:=h5 y hy k hf'
  rcases hk k e with e | e <;> omega
theorem RopeMem.shift {A:ArA} {s:ByteArray} {x:Rt} {en:Int} {w0 w w1 w2:World} {fp:Nat->Prop} (h:RopeMem A s x en w w1) (c0:Ch (fun _=>False) w0 w) (c:Ch fp w1 w2) (hf:∀k,k < w1.heap.size->A.foot [] k->¬fp k) (hk:∀k,fp k->k < w.heap.size\/w1.heap.size<=k) (hn:∀k,k < w0.heap.size->¬fp k):RopeMem A s x en w0 w2:=by
 obtain ⟨ns,h1,h2,h3,h4,h5⟩:=h
 refine ⟨ns,h1,h2.keep c (fun k hk' hf' e=>?_),h3,((c0.mono (fun _ _ e=>e.elim)).trans h4 (fun _ _ e=>e)).trans c (fun i hi e=>absurd e (hn i hi)),fun y hy b hb=>Nat.le_trans c0.size (h5 y hy b hb)⟩
 rcases hf' with hf' | hf' | hf' | ⟨y,hy,hf'⟩
 ·exact hf k hk' (.inl hf') e
 ·exact hf k hk' (.inr (.inl hf')) e
 ·exact hf k hk' (.inr (.inr (.inl hf'))) e
 ·have:=h5 y hy k hf'
  rcases hk k e with e | e <;> omega
theorem RopeMem.ch {A:ArA} {s:ByteArray} {x:Rt} {en:Int} {w w1:World} (h:RopeMem A s x en w w1):Ch A.mut w w1:=by
 obtain ⟨ns,h1,h2,h3,h4,h5⟩:=h
 exact h4
end Go.Proofs.YtjcdknhejcbpiaaGreat
namespace Go.Proofs.YtjcdknhejcbpiaaGreat
open Go.RowKit
set_option linter.unusedVariables false
set_option linter.unusedSimpArgs false
set_option linter.unusedSectionVars false
structure OpV where
 k:Int
 sl:Int
 at':Int
 n:Int
 id:Int
 g:Int
 s:ByteArray
def OpV.cells (x:OpV):List Value:=[.int .u8 x.k,.int .i64 x.sl,.int .i64 x.at',.int .i64 x.n,.int .u32 x.id,.int .u8 x.g,.string x.s]
def OpV.zero:OpV:=⟨0,0,0,0,0,0,⟨#[]⟩⟩
structure RsV where
 er:Int
 rev:Int
 sl:Int
 at':Int
 g:Int
 s:ByteArray
 b:Int
 r:Int
 l:Int
 ik:Int
 fr:Int
 to:Int
def RsV.cells (x:RsV) (d:Value):List Value:=[.int .i64 x.er,.int .i64 x.rev,.int .i64 x.sl,.int .i64 x.at',.int .u8 x.g,.string x.s,.int .i64 x.b,.int .i64 x.r,.int .i64 x.l,.int .u8 x.ik,.int .i64 x.fr,.int .i64 x.to,d]
def RsV.zero:RsV:=⟨0,0,0,0,0,⟨#[]⟩,0,0,0,0,0,0⟩
def opCells (l:List OpV):List Value:=l.flatMap OpV.cells
def rsCells (l:List (RsV × Value)):List Value:=l.flatMap fun x=>x.1.cells x.2
def stoCells (hd:List Value) (a b c d e f:Value) (rq:List OpV) (rp:List (RsV × Value)):List Value:=hd++([a,b,c,d,e,f]++(opCells rq++rsCells rp))
theorem sto_zero:(Tryz.zeroCells125).toList.drop 24=opCells (List.replicate 8 OpV.zero)++rsCells (List.replicate 8 (RsV.zero,.slice none 0 0)):=by kernel_rfl
theorem StC.sto {w:World} {sb:Nat} {hd:List Value} {a b c d e f:Value} {cs:Array Value} (h:StC w sb hd a b c d e f cs) (hl:hd.length=18) :
  Blk w sb 125 (stoCells hd a b c d e f (List.replicate 8 OpV.zero) (List.replicate 8 (RsV.zero,.slice none 0 0))).toArray:=by
 have e:cs=(stoCells hd a b c d e f (List.replicate 8 OpV.zero) (List.replicate 8 (RsV.zero,.slice none 0 0))).toArray:=by
  apply Array.ext_getElem?
  intro k
  refine Eq.trans ?_ (List.getElem?_toArray (xs:=stoCells hd a b c d e f (List.replicate 8 OpV.zero) (List.replicate 8 (RsV.zero,.slice none 0 0))) (i:=k)).symm
  unfold stoCells
  by_cases h1:k < 18
  ·rw [h.h k h1,List.getElem?_append_left (by omega)]
  {
 rw [List.getElem?_append_right (by omega),hl]
 by_cases h2:k < 24
 ·rw [List.getElem?_append_left (by simp;omega)]
  obtain ⟨j,rfl⟩:∃j,k=18+j:=⟨k - 18,by omega⟩
  rw [Nat.add_sub_cancel_left]
  match j,h2 with
  | 0,_=>exact h.c18
  | 1,_=>exact h.c19
  | 2,_=>exact h.c20
  | 3,_=>exact h.c21
  | 4,_=>exact h.c22
  | 5,_=>exact h.c23
  | j+6,h=>exact absurd h (by omega)
 ·rw [List.getElem?_append_right (by simp;omega),h.z k (by omega),<-sto_zero,List.getElem?_drop,Array.getElem?_toList]
  congr 1
  simp
  omega
 }
 rw [<-e]
 exact h.blk
theorem sto_put (hd:List Value) (a b c d e f:Value) (rq:List OpV) (rp:List (RsV × Value)) (hl:hd.length=18) (k:Nat) (x:Value) :
  (stoCells hd a b c d e f rq rp).toArray.setIfInBounds (18+k) x=(hd++([a,b,c,d,e,f]++(opCells rq++rsCells rp)).set k x).toArray:=by
 rw [List.setIfInBounds_toArray]
 unfold stoCells
 rw [List.set_append_right _ _ (by omega),hl,Nat.add_sub_cancel_left]
theorem sto_put22 (hd:List Value) (a b c d e f:Value) (rq:List OpV) (rp:List (RsV × Value)) (hl:hd.length=18) (x:Value):(stoCells hd a b c d e f rq rp).toArray.setIfInBounds 22 x=(stoCells hd a b c d x f rq rp).toArray:=sto_put hd a b c d e f rq rp hl 4 x
def bankR (B p cb:Nat) (lv:Value) (vs:List Int) (lg:List Acc):Res where
 holds w:=Bank B w p cb lv vs lg
 foot:=FP p cb lv
 stable h c hn:=h.ch c (hn _ (.inl rfl)) (hn _ (.inr (.inl rfl))) (fun k hk=>hn k (.inr (.inr hk)))
 lt h k hk:=by
  rcases hk with rfl | rfl | hk
  ·exact h.hp.lt
  ·exact h.hc.lt
  ·exact (h.hl.lt k hk).2
def arR (A:ArA) (ns:List An) (st:Int):Res where
 holds w:=ArM A w ns st
 foot:=A.foot ns
 stable h c hn:=h.keep c (fun k _ hk=>hn k hk)
 lt h k hk:=h.foot_lt hk
def fdsR (fds:List (Nat × Array Value)):List Res:=fds.map fun x=>blkR x.1 202 x.2
def fdsV (fds:List (Nat × Array Value)):List Value:=fds.map fun x=>.pointer (some ⟨x.1,0,none⟩)
theorem ArM.noblk {A:ArA} {w:World} {ns:List An} {st:Int} (h:ArM A w ns st) {k:Nat} {t:TypeId} {cs:Array Value} (hb:Blk w k t cs) (h1:t≠164) (h2:t≠211) (h3:t≠213) (h4:t≠3) (h5:t≠54) (hk:∀y ∈ ns,¬y.kb k):¬A.foot ns k:=by
 rintro (e | rfl | rfl | ⟨y,hy,hyk⟩)
 ·exact h.off hb h1 h2 h3 e
 ·exact Blk.ne hb h.b0 h4 rfl
 ·exact Blk.ne hb h.b2 h5 rfl
 ·exact hk y hy hyk
end Go.Proofs.YtjcdknhejcbpiaaGreat
namespace Go.Proofs.YtjcdknhejcbpiaaGreat.Mix
open Go
set_option linter.unusedSimpArgs false
set_option linter.unusedVariables false
section
variable {P:Program} {ops:Array Oper} {S:Nat->Prop} {kd:Nat->Nat}
section
variable {listed:Array Bool} {cs:List (Nat × Nat)}
end
def rem (s:List Nat):Nat:=(s.map (2 - ·)).sum
end
def upd (U:Nat->Value) (i:Nat) (v:Value):Nat->Value:=fun j=>if j=i then v else U j
end Go.Proofs.YtjcdknhejcbpiaaGreat.Mix
namespace Go.Proofs.YtjcdknhejcbpiaaGreat
open Go.RowKit
set_option linter.unusedVariables false
set_option linter.unusedSimpArgs false
set_option linter.unusedSectionVars false
structure EvR where
 d:Int
 op:OpV
 s:ByteArray
 ma:Option Addr
 mn:Nat
 mc:Nat
 mz:List Int
def EvR.cells (x:EvR):List Value:=[.int .u8 x.d,.int .u8 x.op.k,.int .i64 x.op.sl,.int .i64 x.op.at',.int .i64 x.op.n,.int .u32 x.op.id,.int .u8 x.op.g,.string x.op.s,.string x.s,.slice x.ma x.mn x.mc]
structure OpV.ok (x:OpV):Prop where
 k:0<=x.k/\x.k < 256
 sl:-9223372036854775808<=x.sl/\x.sl < 9223372036854775808
 at':-9223372036854775808<=x.at'/\x.at' < 9223372036854775808
 n:-9223372036854775808<=x.n/\x.n < 9223372036854775808
 id:0<=x.id/\x.id < 4294967296
structure EvR.ok (w:World) (x:EvR):Prop where
 d:0<=x.d/\x.d < 256
 op:x.op.ok
 ml:x.mz.length=x.mn
 mz:∀z ∈ x.mz,0<=z/\z < 256
 mcell:0 < x.mn->∃b off,x.ma=some ⟨b,off,none⟩/\b < w.heap.size/\∀i,i < x.mn->w.cell? ⟨b,off+i,none⟩=some (.int .u8 (lk x.mz i))
def InEvR (w:World) (a:Option Addr) (n:Nat) (xs:List EvR):Prop:=
 xs.length=n/\(∀x ∈ xs,x.ok w)/\(0 < n->∃b off,a=some ⟨b,off,none⟩/\b < w.heap.size/\∀(i j:Nat) (x:EvR) v,xs[i]?=some x->x.cells[j]?=some v->w.cell? ⟨b,off+(i * 10+j),none⟩=some v)
theorem below_cell {B:Nat} {w w':World} (h:Below B w w') {p:Addr} (hp:p.block < B):w'.cell? p=w.cell? p:=World.cell?_of_block (w:=w) (h.block p.block hp)
theorem EvR.ok.below {w w':World} {x:EvR} (h:x.ok w) (b:Below w.heap.size w w'):x.ok w':=
 ⟨h.d,h.op,h.ml,h.mz,fun h0=>by
  obtain ⟨g,off,e,hg,hc⟩:=h.mcell h0
  exact ⟨g,off,e,Nat.lt_of_lt_of_le hg b.size,fun i hi=>(below_cell b hg).trans (hc i hi)⟩⟩
def evKs:List K1:=[.inl (some (some .u8)),.inl (some (some .u8)),.inl (some (some .i64)),.inl (some (some .i64)),.inl (some (some .i64)),.inl (some (some .u32)),.inl (some (some .u8)),.inl none,.inl none,.inr [some (some .u8)]]
theorem wf_u32 {n:Int} (h:(Lit.int .u32 n).wf=true):0<=n/\n < 4294967296:=by
 simp [Lit.wf,IntKind.min,IntKind.max,IntKind.signed,IntKind.bits] at h;omega
theorem fits1 {k0:K0} {vs:List Value} (h:FitsS [k0] vs):∃a,vs=[a]/\fitsS k0 a:=by
 obtain ⟨hl,hv⟩:=h
 obtain ⟨a,ha,fa⟩:=hv 0 _ rfl
 match vs,hl with
 | [x],_=>
  simp at ha
  exact ⟨a,by rw [ha],fa⟩
theorem in_bytes {w:World} {a:Option Addr} {n:Nat} {ls:List (List Value)} (h:InRowsS [some (some .u8)] w a n ls):∃zs:List Int,zs.length=n/\(∀z ∈ zs,0<=z/\z < 256)/\(0 < n->∃b off,a=some ⟨b,off,none⟩/\b < w.heap.size/\∀i,i < n->w.cell? ⟨b,off+i,none⟩=some (.int .u8 (lk zs i))):=by
 obtain ⟨hl,hf,hc⟩:=h
 obtain ⟨zs,hzl,hz⟩:=exists_list (R:=fun i (z:Int)=>ls[i]?=some [.int .u8 z]/\0<=z/\z < 256) n (fun i hi=>by
  have h0:ls[i]?=some (ls[i]'(by omega)):=List.getElem?_eq_getElem (by omega)
  obtain ⟨a,hv,⟨u,rfl,hu⟩⟩:=fits1 (hf _ (List.getElem_mem (by omega:i < ls.length)))
  exact ⟨u,by rw [h0,hv],wf_u8 hu⟩)
 refine ⟨zs,hzl,fun z hm=>?_,fun h0=>?_⟩
 ·obtain ⟨i,hi⟩:=List.getElem?_of_mem hm
  exact (hz i z hi).2
 ·obtain ⟨b,off,rfl,hb,hcell⟩:=hc h0
  refine ⟨b,off,rfl,hb,fun i hi=>?_⟩
  have hzi:zs[i]?=some (lk zs i):=by
   rw [lk,List.getD_eq_getElem?_getD,List.getElem?_eq_getElem (by omega)]
   rfl
  have:=hcell i 0 _ (.int .u8 (lk zs i)) (hz i _ hzi).1 rfl
  simpa using this
theorem in_ev1 {w:World} {vs:List Value} (h:FitsN w evKs vs):∃x:EvR,vs=x.cells/\x.ok w:=by
 obtain ⟨hl,hv⟩:=h
 obtain ⟨v0,h0,u0,rfl,w0⟩:=hv 0 _ rfl
 obtain ⟨v1,h1,u1,rfl,w1⟩:=hv 1 _ rfl
 obtain ⟨v2,h2,u2,rfl,w2⟩:=hv 2 _ rfl
 obtain ⟨v3,h3,u3,rfl,w3⟩:=hv 3 _ rfl
 obtain ⟨v4,h4,u4,rfl,w4⟩:=hv 4 _ rfl
 obtain ⟨v5,h5,u5,rfl,w5⟩:=hv 5 _ rfl
 obtain ⟨v6,h6,u6,rfl,w6⟩:=hv 6 _ rfl
 obtain ⟨v7,h7,u7,rfl,w7⟩:=hv 7 _ rfl
 obtain ⟨v8,h8,u8,rfl,w8⟩:=hv 8 _ rfl
 obtain ⟨v9,h9,a9,n9,c9,l9,rfl,_,_,_,f9⟩:=hv 9 _ rfl
 obtain ⟨zs,hz1,hz2,hz3⟩:=in_bytes f9
 refine ⟨⟨u0,⟨u1,u2,u3,u4,u5,u6,u7⟩,u8,a9,n9,c9,zs⟩,?_,⟨wf_u8 w0,⟨wf_u8 w1,wf_i64 w2,wf_i64 w3,wf_i64 w4,wf_u32 w5⟩,hz1,hz2,hz3⟩⟩
 match vs,hl with
 | [x0,x1,x2,x3,x4,x5,x6,x7,x8,x9],_=>
  simp at h0 h1 h2 h3 h4 h5 h6 h7 h8 h9
  rw [h0,h1,h2,h3,h4,h5,h6,h7,h8,h9]
  rfl
theorem in_evR {w:World} {a:Option Addr} {n:Nat} {ls:List (List Value)} (h:InRowsN evKs w a n ls):∃l,InEvR w a n l:=by
 obtain ⟨hl,hf,hc⟩:=h
 obtain ⟨xs,hxl,hx⟩:=exists_list (R:=fun i (x:EvR)=>ls[i]?=some x.cells/\x.ok w) n (fun i hi=>by
  have h0:ls[i]?=some (ls[i]'(by omega)):=List.getElem?_eq_getElem (by omega)
  obtain ⟨x,hx,ho⟩:=in_ev1 (hf _ (List.getElem_mem (by omega:i < ls.length)))
  exact ⟨x,by rw [h0,hx],ho⟩)
 refine ⟨xs,hxl,fun x hm=>?_,fun h0=>?_⟩
 ·obtain ⟨i,hi⟩:=List.getElem?_of_mem hm
  exact (hx i x hi).2
 ·obtain ⟨b,off,rfl,hb,hcell⟩:=hc h0
  exact ⟨b,off,rfl,hb,fun i j x v hi hj=>hcell i j _ v (hx i x hi).1 hj⟩
end Go.Proofs.YtjcdknhejcbpiaaGreat
namespace Go.Proofs.YtjcdknhejcbpiaaGreat
open Go.RowKit
set_option linter.unusedVariables false
set_option linter.unusedSimpArgs false
set_option linter.unusedSectionVars false
theorem lconfig_any (s:ByteArray) (rd:Int) (w:World):Calls Tryz.prog 19 #[.string s,.int .i64 rd] w fun e w'=>e=.returned (Cf.v ⟨200,1,2,rd,1,1,1,s⟩)/\Ch (fun _=>False) w w':=by
 go_enter Tryz.func19,Tryz.ntmps19
 go_wp2_with fail
 refine bodyPost_ret (v:=Cf.v ⟨200,1,2,rd,1,1,1,s⟩) ?_ rfl ⟨rfl,below_ch ?_⟩
 ·simp [results,Tryz.results19,go_sem,Cf.v]
 ·repeat (refine Below.setCell ?_ (by simp) _)
  exact (Below.refl _ _).alloc (Nat.le_refl _) _
def EvR.mk1 (x:EvR) (i:Nat):Mk:=⟨(i:Int)+1,lk x.mz i % ((x.s.size:Int)+1),lk x.mz i % 2⟩
def EvR.mks (x:EvR):List Mk:=(List.range x.mn).map x.mk1
def EvR.v (x:EvR):Value:=.agg #[.int .u8 x.d,.int .u8 x.op.k,.int .i64 x.op.sl,.int .i64 x.op.at',.int .i64 x.op.n,.int .u32 x.op.id,.int .u8 x.op.g,.string x.op.s,.string x.s,.slice x.ma x.mn x.mc]
theorem mks_take (x:EvR) (k:Nat) (h:k < x.mn):x.mks.take (k+1)=x.mks.take k++[x.mk1 k]:=by
 have hl:k < x.mks.length:=by simp [EvR.mks,h]
 rw [List.take_succ_eq_append_getElem hl]
 simp [EvR.mks]
theorem mk_one1 (x:Mk):∀u ∈ x.cells,u.oneCell'=true:=by
 intro u hu
 simp [Mk.cells] at hu
 rcases hu with rfl | rfl | rfl <;> rfl
theorem lmarks_any (x:EvR) (w:World) (hx:x.ok w) (hm:x.mn<=4) (hs:x.s.size<=100000) :
  Calls Tryz.prog 41 #[x.v] w fun e w'=>∃v,e=.returned v/\w'.ownsRow w.heap.size 160 3 v x.mn (mkCells x.mks)/\Ch (fun _=>False) w w':=by
 obtain ⟨i0,hi,hz0,hz1,hz2⟩:=info_parts infoMk
 have hml:=hx.ml
 have hmz:=hid hx.mz
 have hmc:=hid hx.mcell
 have HXL:=hid hml
 clear hx hml
 simp only [EvR.v]
 go_enter Tryz.func41,Tryz.ntmps41
 go_wp2_with fail
 refine at_world fun W1 hW1=>?_
 have C1:=hid (show Ch (fun _=>False) w W1 from by rw [hW1];exact (Ch.refl _ w).alloc _)
 have T1:=hid (show Blk W1 w.heap.size 29 x.cells.toArray from by rw [hW1];exact Blk.new w _ _)
 have l1:=T1.out.lt
 have hB:w.heap.size<=W1.heap.size:=C1.out.size
 clear hW1
 go_loopw [3,4] (fun v i W=>∃k:Nat,k<=x.mn/\i=.int .i64 (k:Int)/\W.ownsRow W1.heap.size 160 3 v k (mkCells (x.mks.take k))/\Ch (fun _=>False) W1 W) (fun _ i _=>x.mn - (intOf i).toNat)
 case atStart=>exact ⟨0,Nat.zero_le _,rfl,World.ownsRow_nil _ _ _ _,Ch.refl _ _⟩
 case round=>
  obtain ⟨k,hk,rfl,hown,hch⟩:=hrel
  have T2:=hid (hch.blk T1.out id)
  obtain ⟨-,-,-,-,-,-,-,-,t0,t1⟩:=T2.out.c10
  have hcs:(x.s.size:Int)+1≠0:=by omega
  by_cases hlt:k < x.mn
  {
 obtain ⟨b,off,hma,hbl,hcell⟩:=hmc.out (by omega)
 have c0:wr.cell? ⟨b,off+k,none⟩=some (.int .u8 (lk x.mz k)):=(hch.cell (p:=⟨b,_,none⟩) (Nat.lt_of_lt_of_le hbl C1.out.size) id).trans ((C1.out.cell (p:=⟨b,_,none⟩) hbl id).trans (hcell k hlt))
 have hz:0<=lk x.mz k/\lk x.mz k < 256:=hmz.out _ (by rw [lk,List.getD_eq_getElem?_getD,List.getElem?_eq_getElem (by rw [HXL.out];exact hlt)];exact List.getElem_mem _)
 rw [hma] at t1
 clear hma
 have x1:decide (k < x.mn)=true:=decide_eq_true hlt
 have x2:decide ((k:Int) < (x.mn:Int))=true:=decide_eq_true (by omega)
 have x3:decide ((k:Int) < 4)=true:=decide_eq_true (by omega)
 obtain ⟨A0,cap0,hv0,_⟩:=own_slice hown
 subst hv0
 have HOW:=hid hown
 have HCH:=hid hch
 clear hown hch
 have hw32:IntKind.u32.wrap ((k:Int)+1)=(k:Int)+1:=by simp [IntKind.wrap,IntKind.signed,IntKind.bits];omega
 go_wp2_with fail
 refine Mix.rt [1,0,0,0,0,0,0,0,0,0,0,0,0,0,0,0,0,0,0,0,0,0,2,2,0] [0,1,2,3,4,5,6,7,8,9,10,11,12,13,14,15,16,17,18,19,20,21,22,23,24] ?_
 repeat ((first | refine Mix.zq ?_ | refine Mix.zp ?_ | refine Mix.zs ?_);go_big_quiet_step (fail);refine wpQuiet_nil ?_)
 refine Mix.ze fun V1 hV1=>?_
 obtain ⟨k1,rfl⟩:=hV1
 go_wp2_with fail
 refine Mix.mix_world fun V2 hV2=>?_
 have c2:Ch (fun _=>False) W1 V2:=by rw [hV2];exact (HCH.out.drewN k1).alloc _
 have CC2:=hid c2
 have O2:=hid (((Ch.refl (fun _=>False) wr).drewN k1 |>.alloc (.cells (x.mk1 k).cells.toArray 160)).own HOW.out (fun _ _ e=>e))
 have B2:=hid (show Blk V2 wr.heap.size 160 (x.mk1 k).cells.toArray from by rw [hV2];exact Blk.new (wr.drewN k1) _ _)
 have e2:V2=(wr.drewN k1).alloc (.cells (x.mk1 k).cells.toArray 160):=hV2
 rw [<-e2] at O2
 clear hV2 e2 c2
 have HTK:=hid (mks_take x k hlt)
 refine Mix.ze fun V3 hV3=>?_
 obtain ⟨k3,rfl⟩:=hV3
 refine wpList_app _ rfl (.tmp 16) (.tmp 38) 47 rfl W1.heap.size 160 i0 _ 3 24 Tryz.underlying47 hi hz0 hz1 hz2 rfl (by decide) _ _ _ rfl O2.out ⟨wr.heap.size,0,none⟩ 1 1 (x.mk1 k).cells rfl rfl ?a1 ?a2 (by decide) ?a3 ?a4 ?a5 ?_
 case a1=>intro j u hu;rw [addr_add0];exact (Blk.cell (B2.out.drewN k3) j).trans (by simpa using hu)
 case a2=>exact mk_one1 _
 case a3=>unfold maxLen;omega
 case a4=>omega
 case a5=>exact CC2.out.size
 intro v' w3 hown' hgrow hfresh
 have c3:Ch (fun _=>False) W1 w3:=(CC2.out.drewN k3).grown hgrow (fun g hg hl=>by
  have:=(HOW.out.lt g hg).1
  omega)
 have C3:=hid c3
 have O3:=hid hown'
 clear c3 hown' hgrow hfresh
 go_wp2_with fail
 repeat ((first | refine Mix.zq ?_ | refine Mix.zp ?_ | refine Mix.zs ?_);go_big_quiet_step (fail);refine wpQuiet_nil ?_)
 intro k4
 go_wp2_with fail
 go_roundw
 case rel=>exact ⟨k+1,by omega,by go_num,by rw [HTK.out,mkCells_snoc];exact O3.out,C3.out.drewN k4⟩
 case measure=>simp [intOf];omega
 }
  ·obtain rfl:k=x.mn:=by omega
   have x1:decide (x.mn < x.mn)=false:=decide_eq_false (by omega)
   have x2:decide ((x.mn:Int) < (x.mn:Int))=false:=decide_eq_false (by omega)
   have HOW:=hid hown
   have HCH:=hid hch
   clear hown hch
   go_wp2_with fail
   go_ret
   refine ⟨_,rfl,?_,C1.out.trans HCH.out (fun _ _ h=>h)⟩
   have:=own_mono HOW.out hB
   rwa [List.take_of_length_le (by simp [EvR.mks])] at this
end Go.Proofs.YtjcdknhejcbpiaaGreat
