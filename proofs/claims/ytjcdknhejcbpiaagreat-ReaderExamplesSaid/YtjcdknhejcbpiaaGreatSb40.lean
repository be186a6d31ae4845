/- Lemmas; no condition. -/
import Derived.Test.YtjcdknhejcbpiaaGreatSb39
set_option maxRecDepth 100000
set_option maxHeartbeats 4000000
namespace Go.Proofs.YtjcdknhejcbpiaaGreat
open Go.RowKit
set_option linter.unusedVariables false
set_option linter.unusedSimpArgs false
set_option linter.unusedSectionVars false
section
variable {w0 w:World} {R:List Res} {σ:RS} {bs:List Bx} {p:PlS} {y:Ly} {n m:Nat} {ts:List (List UInt8)} {hk:Option Nat}
def PlS.pub (p:PlS) (x:EvR) (mv:Value) (r1:RvS):PlS:={ p with now:=⟨true,x.s,mv,x.mks,r1.x.h,0⟩,num:=r1.x.num,pool:=p.pool++[(mv,x.mks)] }
theorem other6_any (M:Mem w0.heap.size w0 (σ.L w0.heap.size++(boxR bs::(p.L w0.heap.size σ.r.sb σ.g n++R))) w) (K:RnOk σ y n m ts hk) (hl:σ.s.lg.length < 700000) (x:EvR) (hx:x.ok w0) (hd:x.d.tmod 8=6) (hs:x.s.size<=120) (hm:x.mn<=4) (hroom:σ.ns.length+11<=σ.A.n) (hAn:σ.A.n<=16384) (ht:ts.length < 100) :
  Calls Tryz.prog 14 #[.pointer (some ⟨p.g,0,none⟩),x.v] w fun e w'=>e=.returned (.bool true)/\∃ys rv' r1 lv' mv,Mem w0.heap.size w0 ((σ.pub ys rv' r1 lv' 2).L w0.heap.size++(boxR bs::((p.pub x mv r1).L w0.heap.size σ.r.sb σ.g n++R))) w'/\RnOk (σ.pub ys rv' r1 lv' 2) y n m (ts++[x.s.data.toList]) hk/\ys.length<=11/\r1.ms=x.mks:=by
 have HM:=hid M
 have HK:=hid K
 have HL:=hid hl
 have HX:=hid hx
 have HSZ:=hid hs
 have HMN:=hid hm
 have HRM0:=hid hroom
 have HAN:=hid hAn
 have HTL:=hid ht
 have d6:(x.d.tmod 8 == 6)=true:=by rw [beq_iff_eq];exact hd
 have p0:w.cell? ⟨p.g,0,none⟩=some (.pointer (some ⟨σ.r.sb,0,none⟩)):=(p_blk M).cell 0
 have lp:=(p_blk M).lt
 clear M K hl hx hs hm hroom hAn ht hd
 simp only [EvR.v]
 go_enter Tryz.func14,Tryz.ntmps14
 go_wp2_with fail
 refine at_world fun W1 hW1=>?_
 have M1:=hid (show Mem w0.heap.size w0 (σ.L w0.heap.size++((boxR bs::(p.L w0.heap.size σ.r.sb σ.g n++R))++[blkR w.heap.size 29 x.cells.toArray])) W1 from by rw [hW1];exact HM.out.snoc _ ((Ch.refl (fun _=>False) w).alloc _) (Blk.new w _ _) (fun k hk=>by rw [show k=w.heap.size from hk];exact Nat.le_refl _))
 clear hW1 p0
 have p0:W1.cell? ⟨p.g,0,none⟩=some (.pointer (some ⟨σ.r.sb,0,none⟩)):=Blk.cell (M1.out.each 10 _ rfl) 0
 obtain ⟨e0,e1,e2,e3,e4,e5,e6,e7,e8,e9⟩:=M1.out.lastBlk.c10
 go_wp2_with fail
 refine Mix.rt [0,0,0,0,0,2,0] [0,1,2,3,4,5,6] ?_
 repeat ((first | refine Mix.zq ?_ | refine Mix.zp ?_ | refine Mix.zs ?_);go_big_quiet_step (fail);refine wpQuiet_nil ?_)
 refine Mix.ze fun V1 hV1=>?_
 obtain ⟨k1,rfl⟩:=hV1
 go_wp2_with fail
 refine (lpublish_any (M1.out.drewN k1) HK.out HL.out x HX.out HSZ.out HMN.out HRM0.out HAN.out HTL.out).mono ?_
 rintro e w2 ⟨rfl,ys,rv1,r1,lv1,hM,hK,hyl,hms⟩
 clear p0 e0 e1 e2 e3 e4 e5 e6 e7 e8 e9
 have M2a:=hid hM
 have HK2:=hid hK
 have HYL:=hid hyl
 have HMS:=hid hms
 clear hM hK hyl hms
 go_wp2_with fail
 repeat ((first | refine Mix.zq ?_ | refine Mix.zp ?_ | refine Mix.zs ?_);go_big_quiet_step (fail);refine wpQuiet_nil ?_)
 intro k2
 refine at_world fun W2 hW2=>?_
 have M2:=hid (show Mem w0.heap.size w0 ((σ.pub ys rv1 r1 lv1 2).L w0.heap.size++((boxR bs::(p.L w0.heap.size σ.r.sb σ.g n++R))++[blkR w.heap.size 29 x.cells.toArray])) W2 from by rw [hW2];exact M2a.out.drewN k2)
 clear hW2 M2a
 go_wp2_with fail
 obtain ⟨N,hN⟩:∃N,N=σ.rs.length:=⟨_,rfl⟩
 have hrl:((σ.pub ys rv1 r1 lv1 2)).rs.length=N+1:=by rw [hN];simp [RS.pub]
 have HR1:=hid (show ((σ.pub ys rv1 r1 lv1 2)).rs[N]?=some r1 from by rw [hN];show (σ.rs++[r1])[σ.rs.length]?=some r1;simp)
 have hNl:N < 200:=by have:=HK2.out.nt;have:=HK2.out.t8;omega
 have HN:=hid (show N < 1000 by omega)
 have HRL:=hid (show ((σ.pub ys rv1 r1 lv1 2)).rs.length < 1000 by omega)
 have H23b:=hid HK2.out.O.h23
 have hown:=(m_rv M2.out).b
 have HB8:=hid (show r1.ms.length<=4/\r1.ds.length<=4 from by
  have hil:N < (ts++[x.s.data.toList]).length:=by rw [HK2.out.nt,hrl];omega
  exact (HK2.out.rv N r1 _ HR1.out (List.getElem?_eq_getElem hil)).2.2)
 have HRM:=hid (show r1.ms.length < 1000 by have:=HB8.out;omega)
 have HRD:=hid (show r1.ds.length < 1000 by have:=HB8.out;omega)
 obtain ⟨A1,cap,hrv,_⟩:=own_slice hown
 rw [hrl] at hrv
 have H23:=hid (show ((σ.pub ys rv1 r1 lv1 2)).cs[23]?=some (.slice A1 (N+1) cap) from by rw [<-hrv];exact H23b.out)
 clear hown hrv hrl hNl hN
 have p0:W2.cell? ⟨p.g,0,none⟩=some (.pointer (some ⟨σ.r.sb,0,none⟩)):=Blk.cell (M2.out.each 10 _ rfl) 0
 have lp2:p.g < W2.heap.size:=Blk.lt (M2.out.each 10 (blkR p.g 51 (p.cells σ.r.sb σ.g n)) rfl)
 obtain ⟨S,hS⟩:∃S:Nat->Prop,∀k,S k↔k < W2.heap.size:=⟨_,fun _=>Iff.rfl⟩
 have hSp1:Mix.Has S p.g:=(hS _).2 lp2
 have HSS:=hid hS
 clear hS
 refine Mix.wp_region_XJ S (fun i=>([1,1,1,4,1,1,1,4,3,2,1,1,1,3,2,0]:List Nat).getD i 0) (fun a0 a' w'=>∃(tb:Nat) (mv dv:Value),a'=(((((((((((((((a0.put (some 20) (.pointer (some ⟨p.g,0,none⟩))).put (some 21) (.pointer (some ⟨p.g,0,none⟩))).put (some 22) (.pointer (some ⟨p.g,0,none⟩))).put (some 23) (.pointer (some ⟨σ.r.sb,0,none⟩))).put (some 24) (.pointer (some ⟨p.g,0,none⟩))).put (some 25) (.pointer (some ⟨p.g,0,none⟩))).put (some 26) (.pointer (some ⟨p.g,0,none⟩))).put (some 27) (.pointer (some ⟨σ.r.sb,0,none⟩))).put (some 28) (.int .i64 (N:Int))).put (some 29) (.tuple #[.agg (rvA r1.x mv dv),.int .i64 0])).put (some 19) (.tuple #[.agg (rvA r1.x mv dv),.int .i64 0])).put (some 30) (.agg (rvA r1.x mv dv))).put (some 31) (.int .i64 0)).put (some 5) (.pointer (some ⟨tb,0,none⟩))).put (some 6) (.int .i64 0))/\Mem w0.heap.size w0 ((σ.pub ys rv1 r1 lv1 2).L w0.heap.size++(((boxR bs::(p.L w0.heap.size σ.r.sb σ.g n++R))++[blkR w.heap.size 29 x.cells.toArray])++[blkR tb 104 (rvA r1.x mv dv)])) w') (by kernel_rfl) ?_ ?_
 ·refine Mix.wpX_prefix (fuel:=8) (by kernel_rfl) [0,1,2,4,5,6,3,7] _ _ _ (by kernel_rfl) ?_
  repeat ((first | refine Mix.zq ?_ | refine Mix.zp ?_ | refine Mix.zs ?_);go_big_quiet_step (fail);refine wpQuiet_nil ?_)
  intro m0
  refine Mix.wpX_world fun V0 hV0=>?_
  have MV0:=hid (show Mem w0.heap.size w0 ((σ.pub ys rv1 r1 lv1 2).L w0.heap.size++((boxR bs::(p.L w0.heap.size σ.r.sb σ.g n++R))++[blkR w.heap.size 29 x.cells.toArray])) V0 from by rw [hV0];exact M2.out.drewN m0)
  have ZV0:=hid (show W2.heap.size<=V0.heap.size from by rw [hV0];exact Nat.le_refl _)
  clear hV0
  refine Mix.wpX_two 8 13 (by kernel_rfl) ?_ ?_
  {
 refine Mix.za fun Q1 hQ1=>?_
 obtain ⟨q1,rfl⟩:=hQ1
 go_wp2_with fail
 refine (latest_any σ.r.sb N cap A1 (V0.drewN q1) (((m_st (MV0.out.drewN q1)).cell 23).trans H23.out) HN.out).mono ?_
 rintro e w' ⟨rfl,rfl⟩
 go_wp2_with fail
 refine ⟨fun k hk=>((Ch.refl (fun _=>False) V0).drewN q1).block k (Nat.lt_of_lt_of_le ((HSS.out k).1 hk) ZV0.out) id,?_⟩
 intro m1
 refine Mix.wpX_world fun V1 hV1=>?_
 have MV1:=hid (show Mem w0.heap.size w0 ((σ.pub ys rv1 r1 lv1 2).L w0.heap.size++((boxR bs::(p.L w0.heap.size σ.r.sb σ.g n++R))++[blkR w.heap.size 29 x.cells.toArray])) V1 from by rw [hV1];exact (MV0.out.drewN q1).drewN m1)
 have ZV1:=hid (show W2.heap.size<=V1.heap.size from by rw [hV1];exact ZV0.out)
 clear hV1
 refine Mix.wpX_two 9 13 (by kernel_rfl) ?_ ?_
 ·refine Mix.ze fun E2 hE2=>?_
  obtain ⟨e2,rfl⟩:=hE2
  go_wp2_with fail
  refine (revision_m (MV1.out.drewN e2) H23b.out HR1.out HRL.out HRM.out HRD.out).mono ?_
  rintro e E2w ⟨mv,dv,rfl,hmo,hdo,hm⟩
  obtain ⟨Am,cm,rfl,_⟩:=own_slice hmo
  obtain ⟨Ad,cd,rfl,_⟩:=own_slice hdo
  clear hmo hdo
  have hM2:=hid (((MV1.out.drewN e2)).keep hm)
  have hz2:=hid hm.size
  simp only [rvA]
  clear hm
  go_wp2_with fail
  intro m2
  refine Mix.wpX_world fun V2 hV2=>?_
  have MV2:=hid (show Mem w0.heap.size w0 ((σ.pub ys rv1 r1 lv1 2).L w0.heap.size++((boxR bs::(p.L w0.heap.size σ.r.sb σ.g n++R))++[blkR w.heap.size 29 x.cells.toArray])) V2 from by rw [hV2];exact hM2.out.drewN m2)
  have ZV2:=hid (show W2.heap.size<=V2.heap.size from by rw [hV2];exact Nat.le_trans ZV1.out hz2.out)
  clear hV2
  refine Mix.wpX_prefix (fuel:=0) (by kernel_rfl) [10,11,12,13,14,15] _ _ _ (by kernel_rfl) ?_
  repeat ((first | refine Mix.zq ?_ | refine Mix.zp ?_ | refine Mix.zs ?_);go_big_quiet_step (fail);refine wpQuiet_nil ?_)
  refine Mix.za fun Y3 hY3=>?_
  obtain ⟨y3,rfl⟩:=hY3
  go_wp2_with fail
  refine ⟨fun k hk=>Below.heap_alloc _ _ k (Nat.lt_of_lt_of_le ((HSS.out k).1 hk) ZV2.out),?_⟩
  refine Mix.mix_world fun V3 hV3=>?_
  obtain ⟨tb3,htb3⟩:∃z,z=V2.heap.size:=⟨_,rfl⟩
  have MV3:=hid (show Mem w0.heap.size w0 ((σ.pub ys rv1 r1 lv1 2).L w0.heap.size++(((boxR bs::(p.L w0.heap.size σ.r.sb σ.g n++R))++[blkR w.heap.size 29 x.cells.toArray])++[blkR tb3 104 #[.int .i64 0,.int .u64 0,.int .i64 0,.int .i64 0,.int .i64 0,.int .i64 0,.slice none 0 0,.slice none 0 0]])) V3 from by rw [hV3,htb3];exact (MV2.out.drewN y3).snoc _ ((Ch.refl (fun _=>False) (V2.drewN y3)).alloc _) (Blk.new (V2.drewN y3) _ _) (fun k hk=>by rw [show k=_ from hk];exact Nat.le_refl _))
  have ZV3:=hid (show W2.heap.size<=V3.heap.size from by rw [hV3];exact Nat.le_trans ZV2.out ((Ch.refl (fun _=>False) V2).drewN y3 |>.alloc _).size)
  rw [<-htb3]
  clear hV3 htb3
  obtain ⟨rc0,rc1,rc2,rc3,rc4,rc5,rc6,rc7⟩:=MV3.out.lastBlk.c8
  obtain ⟨rcf0,rcf1,rcf2,rcf3,rcf4,rcf5,rcf6,rcf7⟩:=MV3.out.lastBlk.f8
  repeat ((first | refine Mix.zq ?_ | refine Mix.zp ?_ | refine Mix.zs ?_);go_big_quiet_step (fail);refine wpQuiet_nil ?_)
  refine Mix.ze fun O3 hO3=>?_
  obtain ⟨o3,rfl⟩:=hO3
  go_wp2_with fail
  repeat ((first | refine Mix.zq ?_ | refine Mix.zp ?_ | refine Mix.zs ?_);go_big_quiet_step (fail);refine wpQuiet_nil ?_)
  intro m3
  refine Mix.wpX_done (by kernel_rfl) ?_
  intro u3
  have hMEM:=(((((((((((MV3.out.drewN o3).putLast 0 (.int .i64 r1.x.num)).putLast 1 (.int .u64 r1.x.at')).putLast 2 (.int .i64 r1.x.h)).putLast 3 (.int .i64 r1.x.b)).putLast 4 (.int .i64 r1.x.r)).putLast 5 (.int .i64 r1.x.l)).putLast 6 (.slice Am r1.ms.length cm)).putLast 7 (.slice Ad r1.ds.length cd)).drewN m3).drewN u3)
  rw [show (((((((((#[.int .i64 0,.int .u64 0,.int .i64 0,.int .i64 0,.int .i64 0,.int .i64 0,.slice none 0 0,.slice none 0 0]:Array Value).setIfInBounds 0 (.int .i64 r1.x.num)).setIfInBounds 1 (.int .u64 r1.x.at')).setIfInBounds 2 (.int .i64 r1.x.h)).setIfInBounds 3 (.int .i64 r1.x.b)).setIfInBounds 4 (.int .i64 r1.x.r)).setIfInBounds 5 (.int .i64 r1.x.l)).setIfInBounds 6 (.slice Am r1.ms.length cm)).setIfInBounds 7 (.slice Ad r1.ds.length cd))=(#[.int .i64 r1.x.num,.int .u64 r1.x.at',.int .i64 r1.x.h,.int .i64 r1.x.b,.int .i64 r1.x.r,.int .i64 r1.x.l,.slice Am r1.ms.length cm,.slice Ad r1.ds.length cd]:Array Value) from by kernel_rfl] at hMEM
  exact ⟨tb3,.slice Am r1.ms.length cm,.slice Ad r1.ds.length cd,by simp only [Act.put,List.setIfInBounds_toArray,List.set_cons_succ,List.set_cons_zero,rvA],hMEM⟩
 ·refine Mix.za fun Y3 hY3=>?_
  obtain ⟨y3,rfl⟩:=hY3
  go_wp2_with fail
  refine ⟨fun k hk=>Below.heap_alloc _ _ k (Nat.lt_of_lt_of_le ((HSS.out k).1 hk) ZV1.out),?_⟩
  refine Mix.mix_world fun V3 hV3=>?_
  obtain ⟨tb3,htb3⟩:∃z,z=V1.heap.size:=⟨_,rfl⟩
  have MV3:=hid (show Mem w0.heap.size w0 ((σ.pub ys rv1 r1 lv1 2).L w0.heap.size++(((boxR bs::(p.L w0.heap.size σ.r.sb σ.g n++R))++[blkR w.heap.size 29 x.cells.toArray])++[blkR tb3 104 #[.int .i64 0,.int .u64 0,.int .i64 0,.int .i64 0,.int .i64 0,.int .i64 0,.slice none 0 0,.slice none 0 0]])) V3 from by rw [hV3,htb3];exact (MV1.out.drewN y3).snoc _ ((Ch.refl (fun _=>False) (V1.drewN y3)).alloc _) (Blk.new (V1.drewN y3) _ _) (fun k hk=>by rw [show k=_ from hk];exact Nat.le_refl _))
  have ZV3:=hid (show W2.heap.size<=V3.heap.size from by rw [hV3];exact Nat.le_trans ZV1.out ((Ch.refl (fun _=>False) V1).drewN y3 |>.alloc _).size)
  rw [<-htb3]
  clear hV3 htb3
  intro m4
  refine Mix.wpX_world fun V4 hV4=>?_
  have MV4:=hid (show Mem w0.heap.size w0 ((σ.pub ys rv1 r1 lv1 2).L w0.heap.size++(((boxR bs::(p.L w0.heap.size σ.r.sb σ.g n++R))++[blkR w.heap.size 29 x.cells.toArray])++[blkR tb3 104 #[.int .i64 0,.int .u64 0,.int .i64 0,.int .i64 0,.int .i64 0,.int .i64 0,.slice none 0 0,.slice none 0 0]])) V4 from by rw [hV4];exact MV3.out.drewN m4)
  have ZV4:=hid (show W2.heap.size<=V4.heap.size from by rw [hV4];exact ZV3.out)
  clear hV4
  refine Mix.wpX_prefix (fuel:=0) (by kernel_rfl) [9,10,11,12,14,15] _ _ _ (by kernel_rfl) ?_
  refine Mix.ze fun E5 hE5=>?_
  obtain ⟨e5,rfl⟩:=hE5
  go_wp2_with fail
  refine (revision_m (MV4.out.drewN e5) H23b.out HR1.out HRL.out HRM.out HRD.out).mono ?_
  rintro e E5w ⟨mv,dv,rfl,hmo,hdo,hm⟩
  obtain ⟨Am,cm,rfl,_⟩:=own_slice hmo
  obtain ⟨Ad,cd,rfl,_⟩:=own_slice hdo
  clear hmo hdo
  have hM5:=hid (((MV4.out.drewN e5)).keep hm)
  have hz5:=hid hm.size
  simp only [rvA]
  clear hm
  go_wp2_with fail
  refine Mix.mix_world fun V5 hV5=>?_
  have MV5:=hid (show Mem w0.heap.size w0 ((σ.pub ys rv1 r1 lv1 2).L w0.heap.size++(((boxR bs::(p.L w0.heap.size σ.r.sb σ.g n++R))++[blkR w.heap.size 29 x.cells.toArray])++[blkR tb3 104 #[.int .i64 0,.int .u64 0,.int .i64 0,.int .i64 0,.int .i64 0,.int .i64 0,.slice none 0 0,.slice none 0 0]])) V5 from by rw [hV5];exact hM5.out)
  have ZV5:=hid (show W2.heap.size<=V5.heap.size from by rw [hV5];exact Nat.le_trans ZV4.out hz5.out)
  clear hV5
  obtain ⟨rc0,rc1,rc2,rc3,rc4,rc5,rc6,rc7⟩:=MV5.out.lastBlk.c8
  obtain ⟨rcf0,rcf1,rcf2,rcf3,rcf4,rcf5,rcf6,rcf7⟩:=MV5.out.lastBlk.f8
  repeat ((first | refine Mix.zq ?_ | refine Mix.zp ?_ | refine Mix.zs ?_);go_big_quiet_step (fail);refine wpQuiet_nil ?_)
  refine Mix.ze fun O5 hO5=>?_
  obtain ⟨o5,rfl⟩:=hO5
  go_wp2_with fail
  repeat ((first | refine Mix.zq ?_ | refine Mix.zp ?_ | refine Mix.zs ?_);go_big_quiet_step (fail);refine wpQuiet_nil ?_)
  intro m5
  refine Mix.wpX_done (by kernel_rfl) ?_
  intro u5
  have hMEM:=(((((((((((MV5.out.drewN o5).putLast 0 (.int .i64 r1.x.num)).putLast 1 (.int .u64 r1.x.at')).putLast 2 (.int .i64 r1.x.h)).putLast 3 (.int .i64 r1.x.b)).putLast 4 (.int .i64 r1.x.r)).putLast 5 (.int .i64 r1.x.l)).putLast 6 (.slice Am r1.ms.length cm)).putLast 7 (.slice Ad r1.ds.length cd)).drewN m5).drewN u5)
  rw [show (((((((((#[.int .i64 0,.int .u64 0,.int .i64 0,.int .i64 0,.int .i64 0,.int .i64 0,.slice none 0 0,.slice none 0 0]:Array Value).setIfInBounds 0 (.int .i64 r1.x.num)).setIfInBounds 1 (.int .u64 r1.x.at')).setIfInBounds 2 (.int .i64 r1.x.h)).setIfInBounds 3 (.int .i64 r1.x.b)).setIfInBounds 4 (.int .i64 r1.x.r)).setIfInBounds 5 (.int .i64 r1.x.l)).setIfInBounds 6 (.slice Am r1.ms.length cm)).setIfInBounds 7 (.slice Ad r1.ds.length cd))=(#[.int .i64 r1.x.num,.int .u64 r1.x.at',.int .i64 r1.x.h,.int .i64 r1.x.b,.int .i64 r1.x.r,.int .i64 r1.x.l,.slice Am r1.ms.length cm,.slice Ad r1.ds.length cd]:Array Value) from by kernel_rfl] at hMEM
  exact ⟨tb3,.slice Am r1.ms.length cm,.slice Ad r1.ds.length cd,by simp only [Act.put,List.setIfInBounds_toArray,List.set_cons_succ,List.set_cons_zero,rvA],hMEM⟩
 }
  {
 refine Mix.za fun Y3 hY3=>?_
 obtain ⟨y3,rfl⟩:=hY3
 go_wp2_with fail
 refine ⟨fun k hk=>Below.heap_alloc _ _ k (Nat.lt_of_lt_of_le ((HSS.out k).1 hk) ZV0.out),?_⟩
 refine Mix.mix_world fun V3 hV3=>?_
 obtain ⟨tb3,htb3⟩:∃z,z=V0.heap.size:=⟨_,rfl⟩
 have MV3:=hid (show Mem w0.heap.size w0 ((σ.pub ys rv1 r1 lv1 2).L w0.heap.size++(((boxR bs::(p.L w0.heap.size σ.r.sb σ.g n++R))++[blkR w.heap.size 29 x.cells.toArray])++[blkR tb3 104 #[.int .i64 0,.int .u64 0,.int .i64 0,.int .i64 0,.int .i64 0,.int .i64 0,.slice none 0 0,.slice none 0 0]])) V3 from by rw [hV3,htb3];exact (MV0.out.drewN y3).snoc _ ((Ch.refl (fun _=>False) (V0.drewN y3)).alloc _) (Blk.new (V0.drewN y3) _ _) (fun k hk=>by rw [show k=_ from hk];exact Nat.le_refl _))
 have ZV3:=hid (show W2.heap.size<=V3.heap.size from by rw [hV3];exact Nat.le_trans ZV0.out ((Ch.refl (fun _=>False) V0).drewN y3 |>.alloc _).size)
 rw [<-htb3]
 clear hV3 htb3
 intro m4
 refine Mix.wpX_world fun V4 hV4=>?_
 have MV4:=hid (show Mem w0.heap.size w0 ((σ.pub ys rv1 r1 lv1 2).L w0.heap.size++(((boxR bs::(p.L w0.heap.size σ.r.sb σ.g n++R))++[blkR w.heap.size 29 x.cells.toArray])++[blkR tb3 104 #[.int .i64 0,.int .u64 0,.int .i64 0,.int .i64 0,.int .i64 0,.int .i64 0,.slice none 0 0,.slice none 0 0]])) V4 from by rw [hV4];exact MV3.out.drewN m4)
 have ZV4:=hid (show W2.heap.size<=V4.heap.size from by rw [hV4];exact ZV3.out)
 clear hV4
 refine Mix.wpX_prefix (fuel:=0) (by kernel_rfl) [8,9,10,11,12,14,15] _ _ _ (by kernel_rfl) ?_
 refine Mix.za fun Q6 hQ6=>?_
 obtain ⟨q6,rfl⟩:=hQ6
 go_wp2_with fail
 refine (latest_any σ.r.sb N cap A1 (V4.drewN q6) (((m_st (MV4.out.drewN q6)).cell 23).trans H23.out) HN.out).mono ?_
 rintro e w' ⟨rfl,rfl⟩
 go_wp2_with fail
 refine ⟨fun k hk=>((Ch.refl (fun _=>False) V4).drewN q6).block k (Nat.lt_of_lt_of_le ((HSS.out k).1 hk) ZV4.out) id,?_⟩
 refine Mix.mix_world fun V6 hV6=>?_
 have MV6:=hid (show Mem w0.heap.size w0 ((σ.pub ys rv1 r1 lv1 2).L w0.heap.size++(((boxR bs::(p.L w0.heap.size σ.r.sb σ.g n++R))++[blkR w.heap.size 29 x.cells.toArray])++[blkR tb3 104 #[.int .i64 0,.int .u64 0,.int .i64 0,.int .i64 0,.int .i64 0,.int .i64 0,.slice none 0 0,.slice none 0 0]])) V6 from by rw [hV6];exact MV4.out.drewN q6)
 have ZV6:=hid (show W2.heap.size<=V6.heap.size from by rw [hV6];exact ZV4.out)
 clear hV6
 refine Mix.ze fun E5 hE5=>?_
 obtain ⟨e5,rfl⟩:=hE5
 go_wp2_with fail
 refine (revision_m (MV6.out.drewN e5) H23b.out HR1.out HRL.out HRM.out HRD.out).mono ?_
 rintro e E5w ⟨mv,dv,rfl,hmo,hdo,hm⟩
 obtain ⟨Am,cm,rfl,_⟩:=own_slice hmo
 obtain ⟨Ad,cd,rfl,_⟩:=own_slice hdo
 clear hmo hdo
 have hM5:=hid (((MV6.out.drewN e5)).keep hm)
 have hz5:=hid hm.size
 simp only [rvA]
 clear hm
 go_wp2_with fail
 refine Mix.mix_world fun V5 hV5=>?_
 have MV5:=hid (show Mem w0.heap.size w0 ((σ.pub ys rv1 r1 lv1 2).L w0.heap.size++(((boxR bs::(p.L w0.heap.size σ.r.sb σ.g n++R))++[blkR w.heap.size 29 x.cells.toArray])++[blkR tb3 104 #[.int .i64 0,.int .u64 0,.int .i64 0,.int .i64 0,.int .i64 0,.int .i64 0,.slice none 0 0,.slice none 0 0]])) V5 from by rw [hV5];exact hM5.out)
 have ZV5:=hid (show W2.heap.size<=V5.heap.size from by rw [hV5];exact Nat.le_trans ZV6.out hz5.out)
 clear hV5
 obtain ⟨rc0,rc1,rc2,rc3,rc4,rc5,rc6,rc7⟩:=MV5.out.lastBlk.c8
 obtain ⟨rcf0,rcf1,rcf2,rcf3,rcf4,rcf5,rcf6,rcf7⟩:=MV5.out.lastBlk.f8
 repeat ((first | refine Mix.zq ?_ | refine Mix.zp ?_ | refine Mix.zs ?_);go_big_quiet_step (fail);refine wpQuiet_nil ?_)
 refine Mix.ze fun O5 hO5=>?_
 obtain ⟨o5,rfl⟩:=hO5
 go_wp2_with fail
 repeat ((first | refine Mix.zq ?_ | refine Mix.zp ?_ | refine Mix.zs ?_);go_big_quiet_step (fail);refine wpQuiet_nil ?_)
 intro m5
 refine Mix.wpX_done (by kernel_rfl) ?_
 intro u5
 have hMEM:=(((((((((((MV5.out.drewN o5).putLast 0 (.int .i64 r1.x.num)).putLast 1 (.int .u64 r1.x.at')).putLast 2 (.int .i64 r1.x.h)).putLast 3 (.int .i64 r1.x.b)).putLast 4 (.int .i64 r1.x.r)).putLast 5 (.int .i64 r1.x.l)).putLast 6 (.slice Am r1.ms.length cm)).putLast 7 (.slice Ad r1.ds.length cd)).drewN m5).drewN u5)
 rw [show (((((((((#[.int .i64 0,.int .u64 0,.int .i64 0,.int .i64 0,.int .i64 0,.int .i64 0,.slice none 0 0,.slice none 0 0]:Array Value).setIfInBounds 0 (.int .i64 r1.x.num)).setIfInBounds 1 (.int .u64 r1.x.at')).setIfInBounds 2 (.int .i64 r1.x.h)).setIfInBounds 3 (.int .i64 r1.x.b)).setIfInBounds 4 (.int .i64 r1.x.r)).setIfInBounds 5 (.int .i64 r1.x.l)).setIfInBounds 6 (.slice Am r1.ms.length cm)).setIfInBounds 7 (.slice Ad r1.ds.length cd))=(#[.int .i64 r1.x.num,.int .u64 r1.x.at',.int .i64 r1.x.h,.int .i64 r1.x.b,.int .i64 r1.x.r,.int .i64 r1.x.l,.slice Am r1.ms.length cm,.slice Ad r1.ds.length cd]:Array Value) from by kernel_rfl] at hMEM
 exact ⟨tb3,.slice Am r1.ms.length cm,.slice Ad r1.ds.length cd,by simp only [Act.put,List.setIfInBounds_toArray,List.set_cons_succ,List.set_cons_zero,rvA],hMEM⟩
 }
 ·clear p0 hSp1 lp2 HSS
  rintro a' w8 ⟨tb,mv0,dv0,rfl,hM⟩
  simp only [Act.put,List.setIfInBounds_toArray,List.set_cons_succ,List.set_cons_zero]
  have M8:=hid hM
  clear hM
  go_wp2_with fail
  obtain ⟨v0,-,v2⟩:=M8.out.lastBlk.c3
  obtain ⟨e0,e1,e2,e3,e4,e5,e6,e7,e8,e9⟩:=M8.out.drop1.lastBlk.c10
  have lt8:=M8.out.lastBlk.lt
  have lx8:=M8.out.drop1.lastBlk.lt
  have hPB:=hid (p_blk M8.out.drop1.drop1)
  have nt8:tb≠p.g:=M8.out.lastBlk.ne hPB.out (by decide)
  have nx8:w.heap.size≠p.g:=M8.out.drop1.lastBlk.ne hPB.out (by decide)
  obtain ⟨S6,hS6⟩:∃S:Nat->Prop,∀k,S k↔(k=tb\/k=w.heap.size):=⟨_,fun _=>Iff.rfl⟩
  have hSp6:Mix.Has S6 tb:=(hS6 _).2 (.inl rfl)
  have hSp7:Mix.Has S6 w.heap.size:=(hS6 _).2 (.inr rfl)
  have HS6:=hid hS6
  clear hS6
  refine Mix.rg S6 [1,1,1,4,0,3,1,1,4,0,1,4,0,0,3,0,0,2] [0,1,2,3,4,6,7,8,10,11,5,9,12,13,14,15,16,17] ?_
  repeat ((first | refine Mix.zq ?_ | refine Mix.zp ?_ | refine Mix.zs ?_);go_big_quiet_step (fail);refine wpQuiet_nil ?_)
  refine Mix.za fun V1 hV1=>?_
  obtain ⟨k1,rfl⟩:=hV1
  go_wp2_with fail
  refine (lmarks_any x (w8.drewN k1) (HX.out.below (M8.out.drewN k1).bel) HMN.out (by have:=HSZ.out;omega)).mono ?_
  rintro e w9 ⟨mv,rfl,hown,hc⟩
  obtain ⟨Am,cm,rfl,_⟩:=own_slice hown
  have HC:=hid hc
  have hml:x.mks.length=x.mn:=by simp [EvR.mks]
  have M9:=hid (p_mark (M8.out.drop1.drop1.drewN k1) hc (by rw [hml];exact hown))
  clear hown hc hml
  go_wp2_with fail
  refine ⟨fun k hk=>HC.out.block k (by rcases (HS6.out k).1 hk with rfl | rfl <;> first | exact lt8 | exact lx8) id,?_⟩
  clear e0 e1 e2 e3 e4 e5 e6 e7 e8 e9 v0 v2
  have PB9:=hid (p_blk M9.out)
  obtain ⟨-,-,-,p3,p4⟩:=PB9.out.c5
  have p5:w9.cell? ⟨p.g,5,none⟩=some p.now.mv:=PB9.out.cell 5
  obtain ⟨-,-,-,-,-,-,p6,p7,p8⟩:=PB9.out.c9
  have q3:=PB9.out.free 3
  have q4:=PB9.out.free 4
  have q5:=PB9.out.free 5
  have q6:=PB9.out.free 6
  have q7:=PB9.out.free 7
  have q8:=PB9.out.free 8
  repeat ((first | refine Mix.zq ?_ | refine Mix.zp ?_ | refine Mix.zs ?_);go_big_quiet_step (fail);refine wpQuiet_nil ?_)
  refine Mix.za fun V2 hV2=>?_
  obtain ⟨k2,rfl⟩:=hV2
  go_wp2_with fail
  refine ⟨fun k hk=>((((((Ch.refl (fun b=>b=p.g) w9).drewN k2).set (fun _=>rfl) _).set (fun _=>rfl) _).set (fun _=>rfl) _).set (fun _=>rfl) _ |>.set (fun _=>rfl) _).block k (Nat.lt_of_lt_of_le (by rcases (HS6.out k).1 hk with rfl | rfl <;> first | exact lt8 | exact lx8) HC.out.size) (by rcases (HS6.out k).1 hk with rfl | rfl <;> first | exact nt8 | exact nx8),?_⟩
  repeat ((first | refine Mix.zq ?_ | refine Mix.zp ?_ | refine Mix.zs ?_);go_big_quiet_step (fail);refine wpQuiet_nil ?_)
  refine Mix.ze fun V3 hV3=>?_
  obtain ⟨k3,rfl⟩:=hV3
  go_wp2_with fail
  intro k4
  refine at_world fun W10 hW10=>?_
  have C10:=hid (show Ch (fun b=>b=p.g) w9 W10 from by rw [hW10];exact (((((((((Ch.refl (fun b=>b=p.g) w9).drewN k2).set (fun _=>rfl) _).set (fun _=>rfl) _).set (fun _=>rfl) _).set (fun _=>rfl) _).set (fun _=>rfl) _).drewN k3).set (fun _=>rfl) _).drewN k4)
  have B10:=hid (show Blk W10 p.g 51 ((p.pub x (.slice Am x.mn cm) r1).cells σ.r.sb σ.g n) from by
   rw [hW10]
   exact Blk.as (((((((((PB9.out.drewN k2).put 3 (.bool true)).put 4 (.string x.s)).put 5 (.slice Am x.mn cm)).put 6 (.int .i64 r1.x.h)).put 7 (.int .i64 0)).drewN k3).put 8 (.int .i64 r1.x.num)).drewN k4) (by kernel_rfl))
  have M10:=hid (p_set M9.out (p.pub x (.slice Am x.mn cm) r1) rfl rfl rfl rfl C10.out B10.out)
  clear hW10 p3 p4 p5 p6 p7 p8 q3 q4 q5 q6 q7 q8
  go_wp2_with fail
  go_ret
  exact ⟨rfl,ys,rv1,r1,lv1,.slice Am x.mn cm,M10.out,HK2.out,HYL.out,HMS.out⟩
end
end Go.Proofs.YtjcdknhejcbpiaaGreat
