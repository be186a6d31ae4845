/- Lemmas; no condition. -/
import Derived.Test.YtjcdknhejcbpiaaGreatSb37
set_option maxRecDepth 100000
set_option maxHeartbeats 4000000
namespace Go.Proofs.YtjcdknhejcbpiaaGreat
open Go.RowKit
set_option linter.unusedVariables false
set_option linter.unusedSimpArgs false
set_option linter.unusedSectionVars false
section
variable {B:Nat} {w0 w w':World} {R:List Res} {σ:RS} {y:Ly} {n m:Nat} {ts:List (List UInt8)} {hk:Option Nat}
def RopeTo (B:Nat) (w0:World) (R:List Res) (σ:RS) (s:ByteArray) (w:World) (e:Ending) (w':World):Prop:=
 w.heap.size<=w'.heap.size/\∃(ys:List An) (x:Rt),e=.returned (.tuple #[x.v,.int .i64 0])/\Mem B w0 (RS.L B { σ with ns:=σ.ns++ys }++R) w'/\ys.length<=11/\ArP (σ.ns++ys)/\∀num,RevOk (σ.ns++ys) ⟨num,x.a,x.h,x.b,x.r,x.l⟩ s.data.toList
theorem mrope_any (M:Mem B w0 (σ.L B++R) w) (P:ArP σ.ns) (s:ByteArray) (hs:s.size<=120) (hroom:σ.ns.length+11<=σ.A.n) (hAn:σ.A.n<=16384) :
  Calls Tryz.prog 47 #[.pointer (some ⟨σ.A.ab,0,none⟩),.string s] w (RopeTo B w0 R σ s w):=by
 rcases Nat.eq_zero_or_pos s.size with h0 | h0
 ·have hse:s=⟨#[]⟩:=by
   have e:s.data.toList=[]:=List.eq_nil_of_length_eq_zero (by rw [dsize];exact h0)
   obtain ⟨d⟩:=s
   obtain ⟨l⟩:=d
   simp at e
   rw [e]
  subst hse
  refine (rnew_e σ.A σ.ns σ.st hAn w (m_ar M)).mono ?_
  rintro e w' ⟨rfl,hc⟩
  refine ⟨hc.size,[],⟨0,0,0,0,0⟩,rfl,?_,by decide,by rw [List.append_nil];exact P,fun num=>⟨rfl,rfl,rfl,.inl ⟨rfl,rfl⟩⟩⟩
  rw [List.append_nil]
  exact M.keep hc
 ·obtain ⟨t,hb,hg,hbt⟩:=build_good h0 (by omega)
  have hc11:=build_cnt11 hb hs
  refine (rope_new σ.A σ.ns σ.st s t w (m_ar M) P h0 (by omega) hb (by omega) (by omega) hAn).mono ?_
  rintro e w' ⟨ys,rfl,hA,hP,hyl,hy,hch,hyk⟩
  have ht:=build_text hb
  have hm:t.meas=mL s.data.toList:=by rw [meas_text,ht]
  refine ⟨hch.size,ys,⟨hdl (σ.ns.length+(t.cnt - 1)),t.ht,t.meas.b,t.meas.r,t.meas.l⟩,rfl,m_rope M hA hch hyk,by omega,hP,fun num=>⟨?_,?_,?_,.inr ⟨σ.ns.length+(t.cnt - 1),t,rfl,rope_nt hyl hy (post_len t 0),ht,rfl,hg,s,hb⟩⟩⟩
  ·show t.meas.b=_
   rw [hm]
  ·show t.meas.r=_
   rw [hm]
  ·show t.meas.l=_
   rw [hm]
end
theorem own_inMk {w:World} {B n c:Nat} {A:Option Addr} {ms:List Mk} (h:w.ownsRow B 160 3 (.slice A n c) n (mkCells ms)) (hl:ms.length=n):InMk w A n ms/\(A=none->c=0):=by
 refine ⟨⟨hl,fun h0=>?_⟩,fun h0=>?_⟩
 ·obtain ⟨g,cap,hv,_,_,_,hgl⟩:=own_form h h0
  injection hv with hA _ _
  subst hA
  refine ⟨g,0,rfl,hgl,fun i j x v hi hj=>?_⟩
  have:=h.cells (g:=g) rfl (i * 3+j) v (flat_getH Mk.cells 3 (fun _=>rfl) ms i x hi j v hj)
  rwa [addr_add0,<-Nat.zero_add (i * 3+j)] at this
 ·subst h0
  rcases h.2 with ⟨h,_⟩ | ⟨g,cap,cur,h,_⟩
  ·injection h
  ·cases h
section
variable {w0 w:World} {R:List Res} {σ:RS} {y:Ly} {n m:Nat} {ts:List (List UInt8)} {hk:Option Nat}
theorem lpublish_any (M:Mem w0.heap.size w0 (σ.L w0.heap.size++R) w) (K:RnOk σ y n m ts hk) (hl:σ.s.lg.length < 700000) (x:EvR) (hx:x.ok w0) (hs:x.s.size<=120) (hm:x.mn<=4) (hroom:σ.ns.length+11<=σ.A.n) (hAn:σ.A.n<=16384) (ht:ts.length < 100) :
  Calls Tryz.prog 39 #[.pointer (some ⟨σ.r.sb,0,none⟩),x.v] w fun e w'=>e=.returned (.bool true)/\∃ys rv' r1 lv',Mem w0.heap.size w0 ((σ.pub ys rv' r1 lv' 2).L w0.heap.size++R) w'/\RnOk (σ.pub ys rv' r1 lv' 2) y n m (ts++[x.s.data.toList]) hk/\ys.length<=11/\r1.ms=x.mks:=by
 have HM:=hid M
 have HK:=hid K
 have HL:=hid hl
 have HX:=hid hx
 have HSZ:=hid hs
 have HMN:=hid hm
 have HRM:=hid hroom
 have HAN:=hid hAn
 have HTL:=hid ht
 clear M K hl hx hs hm hroom hAn ht
 simp only [EvR.v]
 go_enter Tryz.func39,Tryz.ntmps39
 go_wp2_with fail
 refine at_world fun W1 hW1=>?_
 have M1:=hid (show Mem w0.heap.size w0 (σ.L w0.heap.size++(R++[blkR w.heap.size 29 x.cells.toArray])) W1 from by rw [hW1];exact HM.out.snoc _ ((Ch.refl (fun _=>False) w).alloc _) (Blk.new w _ _) (fun k hk=>by rw [show k=w.heap.size from hk];exact Nat.le_refl _))
 have x8:W1.cell? ⟨w.heap.size,8,none⟩=some (.string x.s):=M1.out.lastBlk.cell 8
 have lx:w.heap.size < W1.heap.size:=M1.out.lastBlk.lt
 clear hW1
 obtain ⟨S,hS⟩:∃S:Nat->Prop,∀k,S k↔k < W1.heap.size:=⟨_,fun _=>Iff.rfl⟩
 have hSp1:Mix.Has S w.heap.size:=(hS _).2 lx
 have HSS:=hid hS
 clear hS
 refine Mix.wp_region_XJ S (fun i=>([1,3,1,4,2,1,1,1,3,2,0]:List Nat).getD i 0) (fun a0 a' w'=>∃(tb:Nat) (ys:List An) (rt:Rt),a'=((((((((((a0.put (some 9) (.pointer (some ⟨σ.r.sb,0,none⟩))).put (some 10) (.pointer (some ⟨σ.A.ab,0,none⟩))).put (some 11) (.pointer (some ⟨w.heap.size,8,none⟩))).put (some 12) (.string x.s)).put (some 13) (.tuple #[rt.v,.int .i64 0])).put (some 8) (.tuple #[rt.v,.int .i64 0])).put (some 14) rt.v).put (some 15) (.int .i64 0)).put (some 5) (.pointer (some ⟨tb,0,none⟩))).put (some 6) (.int .i64 0))/\Mem w0.heap.size w0 (RS.L w0.heap.size { σ with ns:=σ.ns++ys }++((R++[blkR w.heap.size 29 x.cells.toArray])++[blkR tb 102 #[.int .u64 rt.a,.int .i64 rt.h,.int .i64 rt.b,.int .i64 rt.r,.int .i64 rt.l]])) w'/\ys.length<=11/\ArP (σ.ns++ys)/\∀num,RevOk (σ.ns++ys) ⟨num,rt.a,rt.h,rt.b,rt.r,rt.l⟩ x.s.data.toList) (by kernel_rfl) ?_ ?_
 ·refine Mix.wpX_prefix (fuel:=8) (by kernel_rfl) [0,2,3] _ _ _ (by kernel_rfl) ?_
  repeat ((first | refine Mix.zq ?_ | refine Mix.zp ?_ | refine Mix.zs ?_);go_big_quiet_step (fail);refine wpQuiet_nil ?_)
  intro m0
  refine Mix.wpX_world fun V0 hV0=>?_
  have MV0:=hid (show Mem w0.heap.size w0 (σ.L w0.heap.size++(R++[blkR w.heap.size 29 x.cells.toArray])) V0 from by rw [hV0];exact M1.out.drewN m0)
  have ZV0:=hid (show W1.heap.size<=V0.heap.size from by rw [hV0];exact Nat.le_refl _)
  clear hV0
  refine Mix.wpX_two 1 8 (by kernel_rfl) ?_ ?_
  {
 refine Mix.za fun Q1 hQ1=>?_
 obtain ⟨q1,rfl⟩:=hQ1
 go_wp2_with fail
 refine (sarena_any (V0.drewN q1) (m_st (MV0.out.drewN q1)) HK.out.O.stf).mono ?_
 rintro e w' ⟨rfl,rfl⟩
 go_wp2_with fail
 refine ⟨fun k hk=>((Ch.refl (fun _=>False) V0).drewN q1).block k (Nat.lt_of_lt_of_le ((HSS.out k).1 hk) ZV0.out) id,?_⟩
 intro m1
 refine Mix.wpX_world fun V1 hV1=>?_
 have MV1:=hid (show Mem w0.heap.size w0 (σ.L w0.heap.size++(R++[blkR w.heap.size 29 x.cells.toArray])) V1 from by rw [hV1];exact (MV0.out.drewN q1).drewN m1)
 have ZV1:=hid (show W1.heap.size<=V1.heap.size from by rw [hV1];exact ZV0.out)
 clear hV1
 refine Mix.wpX_two 4 8 (by kernel_rfl) ?_ ?_
 ·refine Mix.ze fun E2 hE2=>?_
  obtain ⟨e2,rfl⟩:=hE2
  go_wp2_with fail
  refine (mrope_any (MV1.out.drewN e2) HK.out.P x.s HSZ.out HRM.out HAN.out).mono ?_
  rintro e E2w ⟨hsz,ys,rt,rfl,hm,hyl,hP,hrev⟩
  have hM2:=hid hm
  have HYL:=hid hyl
  have HPP:=hid hP
  have HREV:=hid hrev
  have hz2:=hid hsz
  simp only [Rt.v]
  clear hm hyl hP hrev hsz
  go_wp2_with fail
  intro m2
  refine Mix.wpX_world fun V2 hV2=>?_
  have MV2:=hid (show Mem w0.heap.size w0 (RS.L w0.heap.size { σ with ns:=σ.ns++ys }++(R++[blkR w.heap.size 29 x.cells.toArray])) V2 from by rw [hV2];exact hM2.out.drewN m2)
  have ZV2:=hid (show W1.heap.size<=V2.heap.size from by rw [hV2];exact Nat.le_trans ZV1.out hz2.out)
  clear hV2
  refine Mix.wpX_prefix (fuel:=0) (by kernel_rfl) [5,6,7,8,9,10] _ _ _ (by kernel_rfl) ?_
  repeat ((first | refine Mix.zq ?_ | refine Mix.zp ?_ | refine Mix.zs ?_);go_big_quiet_step (fail);refine wpQuiet_nil ?_)
  refine Mix.za fun Y3 hY3=>?_
  obtain ⟨y3,rfl⟩:=hY3
  go_wp2_with fail
  refine ⟨fun k hk=>Below.heap_alloc _ _ k (Nat.lt_of_lt_of_le ((HSS.out k).1 hk) ZV2.out),?_⟩
  refine Mix.mix_world fun V3 hV3=>?_
  obtain ⟨tb3,htb3⟩:∃z,z=V2.heap.size:=⟨_,rfl⟩
  have MV3:=hid (show Mem w0.heap.size w0 (RS.L w0.heap.size { σ with ns:=σ.ns++ys }++((R++[blkR w.heap.size 29 x.cells.toArray])++[blkR tb3 102 #[.int .u64 0,.int .i64 0,.int .i64 0,.int .i64 0,.int .i64 0]])) V3 from by rw [hV3,htb3];exact (MV2.out.drewN y3).snoc _ ((Ch.refl (fun _=>False) (V2.drewN y3)).alloc _) (Blk.new (V2.drewN y3) _ _) (fun k hk=>by rw [show k=_ from hk];exact Nat.le_refl _))
  have ZV3:=hid (show W1.heap.size<=V3.heap.size from by rw [hV3];exact Nat.le_trans ZV2.out ((Ch.refl (fun _=>False) V2).drewN y3 |>.alloc _).size)
  rw [<-htb3]
  clear hV3 htb3
  obtain ⟨rc0,rc1,rc2,rc3,rc4⟩:=MV3.out.lastBlk.c5
  obtain ⟨rcf0,rcf1,rcf2,rcf3,rcf4⟩:=MV3.out.lastBlk.f5
  repeat ((first | refine Mix.zq ?_ | refine Mix.zp ?_ | refine Mix.zs ?_);go_big_quiet_step (fail);refine wpQuiet_nil ?_)
  refine Mix.ze fun O3 hO3=>?_
  obtain ⟨o3,rfl⟩:=hO3
  go_wp2_with fail
  repeat ((first | refine Mix.zq ?_ | refine Mix.zp ?_ | refine Mix.zs ?_);go_big_quiet_step (fail);refine wpQuiet_nil ?_)
  intro m3
  refine Mix.wpX_done (by kernel_rfl) ?_
  intro u3
  have hMEM:=((((((((MV3.out.drewN o3).putLast 0 (.int .u64 rt.a)).putLast 1 (.int .i64 rt.h)).putLast 2 (.int .i64 rt.b)).putLast 3 (.int .i64 rt.r)).putLast 4 (.int .i64 rt.l)).drewN m3).drewN u3)
  rw [show ((((((#[.int .u64 0,.int .i64 0,.int .i64 0,.int .i64 0,.int .i64 0]:Array Value).setIfInBounds 0 (.int .u64 rt.a)).setIfInBounds 1 (.int .i64 rt.h)).setIfInBounds 2 (.int .i64 rt.b)).setIfInBounds 3 (.int .i64 rt.r)).setIfInBounds 4 (.int .i64 rt.l))=(#[.int .u64 rt.a,.int .i64 rt.h,.int .i64 rt.b,.int .i64 rt.r,.int .i64 rt.l]:Array Value) from by kernel_rfl] at hMEM
  exact ⟨tb3,ys,rt,by simp only [Act.put,List.setIfInBounds_toArray,List.set_cons_succ,List.set_cons_zero,Rt.v],hMEM,HYL.out,HPP.out,HREV.out⟩
 ·refine Mix.za fun Y3 hY3=>?_
  obtain ⟨y3,rfl⟩:=hY3
  go_wp2_with fail
  refine ⟨fun k hk=>Below.heap_alloc _ _ k (Nat.lt_of_lt_of_le ((HSS.out k).1 hk) ZV1.out),?_⟩
  refine Mix.mix_world fun V3 hV3=>?_
  obtain ⟨tb3,htb3⟩:∃z,z=V1.heap.size:=⟨_,rfl⟩
  have MV3:=hid (show Mem w0.heap.size w0 (σ.L w0.heap.size++((R++[blkR w.heap.size 29 x.cells.toArray])++[blkR tb3 102 #[.int .u64 0,.int .i64 0,.int .i64 0,.int .i64 0,.int .i64 0]])) V3 from by rw [hV3,htb3];exact (MV1.out.drewN y3).snoc _ ((Ch.refl (fun _=>False) (V1.drewN y3)).alloc _) (Blk.new (V1.drewN y3) _ _) (fun k hk=>by rw [show k=_ from hk];exact Nat.le_refl _))
  have ZV3:=hid (show W1.heap.size<=V3.heap.size from by rw [hV3];exact Nat.le_trans ZV1.out ((Ch.refl (fun _=>False) V1).drewN y3 |>.alloc _).size)
  rw [<-htb3]
  clear hV3 htb3
  intro m4
  refine Mix.wpX_world fun V4 hV4=>?_
  have MV4:=hid (show Mem w0.heap.size w0 (σ.L w0.heap.size++((R++[blkR w.heap.size 29 x.cells.toArray])++[blkR tb3 102 #[.int .u64 0,.int .i64 0,.int .i64 0,.int .i64 0,.int .i64 0]])) V4 from by rw [hV4];exact MV3.out.drewN m4)
  have ZV4:=hid (show W1.heap.size<=V4.heap.size from by rw [hV4];exact ZV3.out)
  clear hV4
  refine Mix.wpX_prefix (fuel:=0) (by kernel_rfl) [4,5,6,7,9,10] _ _ _ (by kernel_rfl) ?_
  refine Mix.ze fun E5 hE5=>?_
  obtain ⟨e5,rfl⟩:=hE5
  go_wp2_with fail
  refine (mrope_any (MV4.out.drewN e5) HK.out.P x.s HSZ.out HRM.out HAN.out).mono ?_
  rintro e E5w ⟨hsz,ys,rt,rfl,hm,hyl,hP,hrev⟩
  have hM5:=hid hm
  have HYL:=hid hyl
  have HPP:=hid hP
  have HREV:=hid hrev
  have hz5:=hid hsz
  simp only [Rt.v]
  clear hm hyl hP hrev hsz
  go_wp2_with fail
  refine Mix.mix_world fun V5 hV5=>?_
  have MV5:=hid (show Mem w0.heap.size w0 (RS.L w0.heap.size { σ with ns:=σ.ns++ys }++((R++[blkR w.heap.size 29 x.cells.toArray])++[blkR tb3 102 #[.int .u64 0,.int .i64 0,.int .i64 0,.int .i64 0,.int .i64 0]])) V5 from by rw [hV5];exact hM5.out)
  have ZV5:=hid (show W1.heap.size<=V5.heap.size from by rw [hV5];exact Nat.le_trans ZV4.out hz5.out)
  clear hV5
  obtain ⟨rc0,rc1,rc2,rc3,rc4⟩:=MV5.out.lastBlk.c5
  obtain ⟨rcf0,rcf1,rcf2,rcf3,rcf4⟩:=MV5.out.lastBlk.f5
  repeat ((first | refine Mix.zq ?_ | refine Mix.zp ?_ | refine Mix.zs ?_);go_big_quiet_step (fail);refine wpQuiet_nil ?_)
  refine Mix.ze fun O5 hO5=>?_
  obtain ⟨o5,rfl⟩:=hO5
  go_wp2_with fail
  repeat ((first | refine Mix.zq ?_ | refine Mix.zp ?_ | refine Mix.zs ?_);go_big_quiet_step (fail);refine wpQuiet_nil ?_)
  intro m5
  refine Mix.wpX_done (by kernel_rfl) ?_
  intro u5
  have hMEM:=((((((((MV5.out.drewN o5).putLast 0 (.int .u64 rt.a)).putLast 1 (.int .i64 rt.h)).putLast 2 (.int .i64 rt.b)).putLast 3 (.int .i64 rt.r)).putLast 4 (.int .i64 rt.l)).drewN m5).drewN u5)
  rw [show ((((((#[.int .u64 0,.int .i64 0,.int .i64 0,.int .i64 0,.int .i64 0]:Array Value).setIfInBounds 0 (.int .u64 rt.a)).setIfInBounds 1 (.int .i64 rt.h)).setIfInBounds 2 (.int .i64 rt.b)).setIfInBounds 3 (.int .i64 rt.r)).setIfInBounds 4 (.int .i64 rt.l))=(#[.int .u64 rt.a,.int .i64 rt.h,.int .i64 rt.b,.int .i64 rt.r,.int .i64 rt.l]:Array Value) from by kernel_rfl] at hMEM
  exact ⟨tb3,ys,rt,by simp only [Act.put,List.setIfInBounds_toArray,List.set_cons_succ,List.set_cons_zero,Rt.v],hMEM,HYL.out,HPP.out,HREV.out⟩
 }
  {
 refine Mix.za fun Y3 hY3=>?_
 obtain ⟨y3,rfl⟩:=hY3
 go_wp2_with fail
 refine ⟨fun k hk=>Below.heap_alloc _ _ k (Nat.lt_of_lt_of_le ((HSS.out k).1 hk) ZV0.out),?_⟩
 refine Mix.mix_world fun V3 hV3=>?_
 obtain ⟨tb3,htb3⟩:∃z,z=V0.heap.size:=⟨_,rfl⟩
 have MV3:=hid (show Mem w0.heap.size w0 (σ.L w0.heap.size++((R++[blkR w.heap.size 29 x.cells.toArray])++[blkR tb3 102 #[.int .u64 0,.int .i64 0,.int .i64 0,.int .i64 0,.int .i64 0]])) V3 from by rw [hV3,htb3];exact (MV0.out.drewN y3).snoc _ ((Ch.refl (fun _=>False) (V0.drewN y3)).alloc _) (Blk.new (V0.drewN y3) _ _) (fun k hk=>by rw [show k=_ from hk];exact Nat.le_refl _))
 have ZV3:=hid (show W1.heap.size<=V3.heap.size from by rw [hV3];exact Nat.le_trans ZV0.out ((Ch.refl (fun _=>False) V0).drewN y3 |>.alloc _).size)
 rw [<-htb3]
 clear hV3 htb3
 intro m4
 refine Mix.wpX_world fun V4 hV4=>?_
 have MV4:=hid (show Mem w0.heap.size w0 (σ.L w0.heap.size++((R++[blkR w.heap.size 29 x.cells.toArray])++[blkR tb3 102 #[.int .u64 0,.int .i64 0,.int .i64 0,.int .i64 0,.int .i64 0]])) V4 from by rw [hV4];exact MV3.out.drewN m4)
 have ZV4:=hid (show W1.heap.size<=V4.heap.size from by rw [hV4];exact ZV3.out)
 clear hV4
 refine Mix.wpX_prefix (fuel:=0) (by kernel_rfl) [1,4,5,6,7,9,10] _ _ _ (by kernel_rfl) ?_
 refine Mix.za fun Q6 hQ6=>?_
 obtain ⟨q6,rfl⟩:=hQ6
 go_wp2_with fail
 refine (sarena_any (V4.drewN q6) (m_st (MV4.out.drewN q6)) HK.out.O.stf).mono ?_
 rintro e w' ⟨rfl,rfl⟩
 go_wp2_with fail
 refine ⟨fun k hk=>((Ch.refl (fun _=>False) V4).drewN q6).block k (Nat.lt_of_lt_of_le ((HSS.out k).1 hk) ZV4.out) id,?_⟩
 refine Mix.mix_world fun V6 hV6=>?_
 have MV6:=hid (show Mem w0.heap.size w0 (σ.L w0.heap.size++((R++[blkR w.heap.size 29 x.cells.toArray])++[blkR tb3 102 #[.int .u64 0,.int .i64 0,.int .i64 0,.int .i64 0,.int .i64 0]])) V6 from by rw [hV6];exact MV4.out.drewN q6)
 have ZV6:=hid (show W1.heap.size<=V6.heap.size from by rw [hV6];exact ZV4.out)
 clear hV6
 refine Mix.ze fun E5 hE5=>?_
 obtain ⟨e5,rfl⟩:=hE5
 go_wp2_with fail
 refine (mrope_any (MV6.out.drewN e5) HK.out.P x.s HSZ.out HRM.out HAN.out).mono ?_
 rintro e E5w ⟨hsz,ys,rt,rfl,hm,hyl,hP,hrev⟩
 have hM5:=hid hm
 have HYL:=hid hyl
 have HPP:=hid hP
 have HREV:=hid hrev
 have hz5:=hid hsz
 simp only [Rt.v]
 clear hm hyl hP hrev hsz
 go_wp2_with fail
 refine Mix.mix_world fun V5 hV5=>?_
 have MV5:=hid (show Mem w0.heap.size w0 (RS.L w0.heap.size { σ with ns:=σ.ns++ys }++((R++[blkR w.heap.size 29 x.cells.toArray])++[blkR tb3 102 #[.int .u64 0,.int .i64 0,.int .i64 0,.int .i64 0,.int .i64 0]])) V5 from by rw [hV5];exact hM5.out)
 have ZV5:=hid (show W1.heap.size<=V5.heap.size from by rw [hV5];exact Nat.le_trans ZV6.out hz5.out)
 clear hV5
 obtain ⟨rc0,rc1,rc2,rc3,rc4⟩:=MV5.out.lastBlk.c5
 obtain ⟨rcf0,rcf1,rcf2,rcf3,rcf4⟩:=MV5.out.lastBlk.f5
 repeat ((first | refine Mix.zq ?_ | refine Mix.zp ?_ | refine Mix.zs ?_);go_big_quiet_step (fail);refine wpQuiet_nil ?_)
 refine Mix.ze fun O5 hO5=>?_
 obtain ⟨o5,rfl⟩:=hO5
 go_wp2_with fail
 repeat ((first | refine Mix.zq ?_ | refine Mix.zp ?_ | refine Mix.zs ?_);go_big_quiet_step (fail);refine wpQuiet_nil ?_)
 intro m5
 refine Mix.wpX_done (by kernel_rfl) ?_
 intro u5
 have hMEM:=((((((((MV5.out.drewN o5).putLast 0 (.int .u64 rt.a)).putLast 1 (.int .i64 rt.h)).putLast 2 (.int .i64 rt.b)).putLast 3 (.int .i64 rt.r)).putLast 4 (.int .i64 rt.l)).drewN m5).drewN u5)
 rw [show ((((((#[.int .u64 0,.int .i64 0,.int .i64 0,.int .i64 0,.int .i64 0]:Array Value).setIfInBounds 0 (.int .u64 rt.a)).setIfInBounds 1 (.int .i64 rt.h)).setIfInBounds 2 (.int .i64 rt.b)).setIfInBounds 3 (.int .i64 rt.r)).setIfInBounds 4 (.int .i64 rt.l))=(#[.int .u64 rt.a,.int .i64 rt.h,.int .i64 rt.b,.int .i64 rt.r,.int .i64 rt.l]:Array Value) from by kernel_rfl] at hMEM
 exact ⟨tb3,ys,rt,by simp only [Act.put,List.setIfInBounds_toArray,List.set_cons_succ,List.set_cons_zero,Rt.v],hMEM,HYL.out,HPP.out,HREV.out⟩
 }
 ·clear x8
  rintro a' w8 ⟨tb,ys,rt,rfl,hM,hyl,hP,hrev⟩
  simp only [Act.put,List.setIfInBounds_toArray,List.set_cons_succ,List.set_cons_zero]
  have M8:=hid hM
  have HYL:=hid hyl
  have HPP:=hid hP
  have HREV:=hid hrev
  clear hM hyl hP hrev
  go_wp2_with fail
  have hnl:0 < σ.rs.length:=by
   obtain ⟨i,_,hi⟩:=HK.out.rt
   rw [HK.out.nt] at hi
   omega
  obtain ⟨N,hN⟩:∃N,σ.rs.length=N+1:=⟨σ.rs.length - 1,by omega⟩
  have hN100:N < 100:=by have:=HK.out.nt;have:=HTL.out;omega
  obtain ⟨r0,hr0⟩:∃r0,σ.rs[N]?=some r0:=⟨_,List.getElem?_eq_getElem (by omega)⟩
  obtain ⟨t0,ht0⟩:∃t0,ts[N]?=some t0:=⟨_,List.getElem?_eq_getElem (by rw [HK.out.nt];omega)⟩
  have hr0n:=(HK.out.rv N r0 t0 hr0 ht0).2.1
  have hown:=(m_rv M8.out).b
  obtain ⟨A1,cap,hrv,_⟩:=own_slice hown
  have hrv':σ.rv=.slice A1 (N+1) cap:=by rw [<-hN];exact hrv
  have H23:=hid (show σ.cs[23]?=some (.slice A1 (N+1) cap) from by rw [<-hrv'];exact HK.out.O.h23)
  have HNN:=hid hN
  have HR0:=hid hr0
  have HR0N:=hid hr0n
  clear hown hrv hrv' hnl hN hr0 hr0n ht0
  have LB:=hid (((m_st M8.out).cell 23).trans H23.out)
  obtain ⟨r0',r1',r2',r3',r4'⟩:=M8.out.lastBlk.c5
  obtain ⟨e0,e1,e2,e3,e4,e5,e6,e7,e8,e9⟩:=M8.out.drop1.lastBlk.c10
  have lt8:=M8.out.lastBlk.lt
  clear hSp1 HSS lx
  obtain ⟨S4,hS4⟩:∃S:Nat->Prop,∀k,S k↔k < w8.heap.size:=⟨_,fun _=>Iff.rfl⟩
  have hSp4:Mix.Has S4 tb:=(hS4 _).2 lt8
  have HS4:=hid hS4
  clear hS4
  refine Mix.rg S4 [1,0,0,1,1,4,0,3,0,2,0,0,0,0,0] [0,1,2,3,4,5,6,7,8,9,10,11,12,13,14] ?_
  repeat ((first | refine Mix.zq ?_ | refine Mix.zp ?_ | refine Mix.zs ?_);go_big_quiet_step (fail);refine wpQuiet_nil ?_)
  (refine Mix.zq ?_;go_big_quiet_step ((go_at_call 40;exact latest_q σ.r.sb N cap A1 w8 LB.out (by omega) _));refine wpQuiet_nil ?_)
  repeat ((first | refine Mix.zq ?_ | refine Mix.zp ?_ | refine Mix.zs ?_);go_big_quiet_step (fail);refine wpQuiet_nil ?_)
  refine Mix.za fun V1 hV1=>?_
  obtain ⟨k1,rfl⟩:=hV1
  go_wp2_with fail
  refine (lmarks_any x (w8.drewN k1) (HX.out.below (M8.out.drewN k1).bel) HMN.out (by have:=HSZ.out;omega)).mono ?_
  rintro e w9 ⟨mv,rfl,hown,hc⟩
  obtain ⟨Am,cm,rfl,_⟩:=own_slice hown
  have hin:=own_inMk hown (by simp [EvR.mks])
  have HIN:=hid hin.1
  have HZ:=hid hin.2
  have HC:=hid hc
  have M9:=hid ((M8.out.drewN k1).keep hc)
  clear hown hc hin
  go_wp2_with fail
  refine ⟨fun k hk=>HC.out.block k ((HS4.out k).1 hk) id,?_⟩
  clear e0 e1 e2 e3 e4 e5 e6 e7 e8 e9 r0' r1' r2' r3' r4'
  repeat ((first | refine Mix.zq ?_ | refine Mix.zp ?_ | refine Mix.zs ?_);go_big_quiet_step (fail);refine wpQuiet_nil ?_)
  refine Mix.ze fun V2 hV2=>?_
  obtain ⟨k2,rfl⟩:=hV2
  go_wp2_with fail
  have hww:IntKind.i64.wrap (3 * ((N:Int)+1))=3 * ((N:Int)+1):=IntWalk.i64_in _ (by omega)
  refine (publish_m (M9.out.drewN k2) HK.out.O.h23 (k:=N) HNN.out (by omega) HR0.out ⟨3 * ((N:Int)+1),rt.a,rt.h,rt.b,rt.r,rt.l⟩ (by rw [HR0N.out];show 3 * (N:Int) < 3 * ((N:Int)+1);omega) (ad:=none) (n2:=0) (c2:=0) (ds:=[]) (HIN.out.keep ((Ch.refl _ w9).drewN k2) (fun _ _ _ _ h=>h)) ⟨rfl,fun h=>absurd h (by omega)⟩ HZ.out (fun _=>rfl) (by have:=HMN.out;omega) (by omega)).mono ?_
  rintro e w10 ⟨rfl,rv',mv',dv',hM⟩
  have M10:=hid hM
  clear hM hww
  go_wp2_with fail
  repeat ((first | refine Mix.zq ?_ | refine Mix.zp ?_ | refine Mix.zs ?_);go_big_quiet_step (fail);refine wpQuiet_nil ?_)
  intro k3
  refine at_world fun W11 hW11=>?_
  have M11:=hid (show Mem w0.heap.size w0 (RS.L w0.heap.size { σ with ns:=σ.ns++ys,cs:=σ.cs.setIfInBounds 23 rv',rv:=rv',rs:=σ.rs++[⟨⟨3 * ((N:Int)+1),rt.a,rt.h,rt.b,rt.r,rt.l⟩,mv',x.mks,dv',[]⟩] }++((R++[blkR w.heap.size 29 x.cells.toArray])++[blkR tb 102 #[.int .u64 rt.a,.int .i64 rt.h,.int .i64 rt.b,.int .i64 rt.r,.int .i64 rt.l]])) W11 from by rw [hW11];exact M10.out.drewN k3)
  clear hW11 M10
  have h23s:23 < σ.cs.size:=(Array.getElem?_eq_some_iff.1 HK.out.O.h23).1
  have O11:=HK.out.O.publish rv' (σ.rs++[⟨⟨3 * ((N:Int)+1),rt.a,rt.h,rt.b,rt.r,rt.l⟩,mv',x.mks,dv',[]⟩]) h23s (by simp [Ly.arr])
  have HO:=hid O11
  clear O11 h23s
  have wu:IntKind.u64.wrap (((N+1:Nat):Int))=((N+1:Nat):Int):=by simp [IntKind.wrap,IntKind.signed,IntKind.bits];omega
  go_wp2_with fail
  refine (sbank_any W11 (m_st M11.out) HO.out.stf).mono ?_
  rintro e w' ⟨rfl,rfl⟩
  go_wp2_with fail
  refine (slayout_any W11 (m_st M11.out) HO.out.stf).mono ?_
  rintro e w12 ⟨rfl,hc12⟩
  have M12:=hid (M11.out.keep hc12)
  clear hc12
  simp only [Ly.arr]
  have hfd:∀W:World,(Instr.field 83 (.agg #[.int .i64 y.l0,.int .i64 y.l1,.int .i64 y.l2,.int .i64 y.l3,.int .i64 y.l4,.int .i64 y.l5,.int .i64 y.l6,.int .i64 y.l7,.int .i64 y.l8,.int .i64 y.l9]) 1).run Tryz.prog W=.ok (.int .i64 y.l1) W:=fun W=>by kernel_rfl
  go_wp2_with fail
  rw [HK.out.O.y1]
  have HB12:=m_bk M12.out
  refine (store_ok w0.heap.size σ.p σ.cb σ.lv σ.s 2 1 ((N+1:Nat):Int) w12 HB12 ⟨by decide,by decide,by decide,by have:=HK.out.O.vs;omega⟩ (by have:=HL.out;omega) M12.out.bz (by omega)).mono ?_
  rintro e w13 ⟨rfl,hbs⟩
  obtain ⟨lv',hM13⟩:=m_bank M12.out hbs
  have M13:=hid hM13
  clear hbs hM13 hfd wu HB12
  go_wp2_with fail
  go_ret
  refine ⟨rfl,ys,rv',⟨⟨3 * ((N:Int)+1),rt.a,rt.h,rt.b,rt.r,rt.l⟩,mv',x.mks,dv',[]⟩,lv',?_,?_,HYL.out,rfl⟩
  ·have:=M13.out.drop1.drop1
   rw [<-HNN.out] at this
   exact this
  ·exact HK.out.pub (by have:=HL.out;omega) HPP.out rv' _ lv' 2 (by have:=HTL.out;omega) (by rw [dsize];have:=HSZ.out;omega) (HREV.out _) (by rw [HK.out.nt,HNN.out];push_cast;rfl) (by show x.mks.length<=4;simp [EvR.mks];exact HMN.out) (Nat.zero_le _)
end
end Go.Proofs.YtjcdknhejcbpiaaGreat
