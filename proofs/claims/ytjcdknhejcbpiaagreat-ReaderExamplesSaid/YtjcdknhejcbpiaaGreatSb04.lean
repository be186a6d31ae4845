/- Lemmas; no condition. -/
import Derived.Test.YtjcdknhejcbpiaaGreatSb03
set_option maxRecDepth 100000
set_option maxHeartbeats 2000000
namespace Go.Proofs.YtjcdknhejcbpiaaGreat.Mix
open Go
set_option linter.unusedSimpArgs false
section
variable {P:Program} {ops:Array Oper} {S:Nat->Prop} {kd:Nat->Nat}
def lexP (ops:Array Oper) (kd:Nat->Nat):List Nat->Array Bool->Bool
 | [],_=>true
 | i::rest,listed=>(Region.ready .any ops listed).contains i && freeX ops kd listed i && lexP ops kd rest (listed.setIfInBounds i true)
def marks (ord:List Nat) (listed:Array Bool):Array Bool:=ord.foldl (fun l i=>l.setIfInBounds i true) listed
theorem blk_size (listed:Array Bool) (i:Nat):(blkA ops listed i).size=ops.size:=by
 unfold blkA
 have:∀(l:List Nat) (b:Array Bool),b.size=ops.size->(l.foldl (fun b j=>if !listed.getD j true && ((ops[j]?).map (·.after.any fun e=>Region.binds .any e && (e.on == i || b.getD e.on false))).getD false then b.setIfInBounds j true else b) b).size=ops.size:=by
  intro l
  induction l with
  | nil=>intro b hb;exact hb
  | cons x l ih=>intro b hb;simp only [List.foldl_cons];exact ih _ (by split <;> simpa using hb)
 exact this _ _ (by simp)
theorem wpX_step {Q:Act->World->Prop} (hs:Region.noSelect ops=true) {i:Nat} {listed:Array Bool} {a:Act} {w:World} {fuel:Nat} (hr:(Region.ready .any ops listed).contains i=true) (hf:freeX ops kd listed i=true)
  (H:opX P ops S kd i (wpX P ops S kd Q fuel (listed.setIfInBounds i true)) a w):wpX P ops S kd Q (fuel+1) listed a w:=by
 have hr':i ∈ Region.ready .any ops listed:=by simpa using hr
 obtain ⟨_,oi,hoi,_⟩:=mem_ready.1 hr'
 simp only [freeX,hoi,List.all_eq_true,List.mem_range] at hf
 refine wpX_first hoi (Region.noSelect_spec hs) (fun j=>(blkA ops listed i).getD j false=true/\j < ops.size) (fun j oj hj hoj=>?_) fuel listed a w (fun j hj=>?_) (fun j oj hoj hji hun hb=>?_) hr' H
 ·have h1:=hf j hj.2
  simp only [hoj,hj.1,Bool.not_true,Bool.false_or,Bool.and_eq_true] at h1
  obtain ⟨e,he,hb⟩:=Array.any_eq_true'.1 h1.1.2
  simp only [Bool.and_eq_true,Bool.or_eq_true,beq_iff_eq] at hb
  refine ⟨e,he,hb.1,hb.2.imp id fun h=>⟨h,?_⟩⟩
  rcases Nat.lt_or_ge e.on ops.size with h' | h'
  ·exact h'
  ·have hsz:=blk_size (ops:=ops) listed i
   rw [Array.getD_eq_getD_getElem?,Array.getElem?_eq_none (by omega)] at h
   cases h
 ·obtain ⟨o,ho⟩:∃o,ops[j]?=some o:=⟨_,Array.getElem?_eq_getElem hj.2⟩
  have h1:=hf j hj.2
  simp only [ho,hj.1,Bool.not_true,Bool.false_or,Bool.and_eq_true] at h1
  simpa using h1.1.1
 ·have hlt:j < ops.size:=(Array.getElem?_eq_some_iff.1 hoj).1
  have h1:=hf j hlt
  have hb':(blkA ops listed i).getD j false=false:=by
   cases hx:(blkA ops listed i).getD j false
   ·rfl
   ·exact absurd ⟨hx,hlt⟩ hb
  simp only [hoj,hb',Bool.not_false,Bool.true_or,Bool.true_and,Bool.or_eq_true,beq_iff_eq,hji,false_or,hun,Bool.false_eq_true,Bool.and_eq_true] at h1
  exact h1
theorem wpX_prefix {Q:Act->World->Prop} {fuel:Nat} (hs:Region.noSelect ops=true):∀(ord:List Nat) (listed:Array Bool) (a:Act) (w:World),lexP ops kd ord listed=true->
  wpMix P ops S kd (fun a w=>wpX P ops S kd Q fuel (marks ord listed) a w) ord a w->wpX P ops S kd Q (ord.length+fuel) listed a w
 | [],_,_,_,_,h=>by rw [List.length_nil,Nat.zero_add];exact h 0
 | i::rest,listed,a,w,hB,h=>by
  simp only [lexP,Bool.and_eq_true] at hB
  rw [List.length_cons,show rest.length+1+fuel=rest.length+fuel+1 by omega]
  exact wpX_step hs hB.1.1 hB.1.2 (opX_mono (fun a' w' hK=>wpX_prefix hs rest (listed.setIfInBounds i true) a' w' hB.2 hK) h)
theorem wpX_two {Q:Act->World->Prop} {fuel:Nat} {listed:Array Bool} {a:Act} {w:World} (i j:Nat) (hB:(Region.ready .any ops listed == [i,j])=true)
  (h1:wpMix P ops S kd (fun a w=>wpX P ops S kd Q fuel (listed.setIfInBounds i true) a w) [i] a w) (h2:wpMix P ops S kd (fun a w=>wpX P ops S kd Q fuel (listed.setIfInBounds j true) a w) [j] a w):wpX P ops S kd Q (fuel+1) listed a w:=by
 have hr:Region.ready .any ops listed=[i,j]:=by simpa using hB
 refine ⟨(fun h=>by rw [hr] at h;cases h),fun k hk=>?_⟩
 rw [hr] at hk
 simp at hk
 rcases hk with rfl | rfl
 ·exact opX_mono (fun a' w' hK=>hK 0) h1
 ·exact opX_mono (fun a' w' hK=>hK 0) h2
theorem wpX_done {Q:Act->World->Prop} {listed:Array Bool} {a:Act} {w:World} (hB:(Region.ready .any ops listed).isEmpty=true) (h:∀n,Q a (w.drewN n)):wpX P ops S kd Q 0 listed a w:=⟨by simpa using hB,h⟩
theorem wpX_world {Q:Act->World->Prop} {fuel:Nat} {listed:Array Bool} {a:Act} {w:World} (h:∀W,W=w->wpX P ops S kd Q fuel listed a W):wpX P ops S kd Q fuel listed a w:=h w rfl
theorem wp_region_X {id:Nat} {Q:Exit->Act->World->Prop} {a:Act} {w:World} {l:List Oper} (S:Nat->Prop) (kd:Nat->Nat) (hm:P.follows .mixedOrders=true)
  (h:wpX P l.toArray S kd (Q .normal) l.toArray.size (Array.replicate l.toArray.size false) a w):(Code.region id l.toArray true).wp P Q a w:=by
 refine wp_region_any hm ?_
 exact wpAny_of_X (Q:=Q) _ _ _ _ h 1
end
end Go.Proofs.YtjcdknhejcbpiaaGreat.Mix
namespace Go.Proofs.YtjcdknhejcbpiaaGreat.Mix
open Go
set_option linter.unusedSimpArgs false
set_option linter.unusedVariables false
section
variable {P:Program} {ops:Array Oper} {S:Nat->Prop} {kd:Nat->Nat}
theorem wpX_mono {Q Q':Act->World->Prop} (hQ:∀a w,Q a w->Q' a w):∀(fuel:Nat) (listed:Array Bool) (a:Act) (w:World),wpX P ops S kd Q fuel listed a w->wpX P ops S kd Q' fuel listed a w
 | 0,_,_,_,h=>⟨h.1,fun n=>hQ _ _ (h.2 n)⟩
 | fuel+1,listed,a,w,h=>⟨fun e n=>hQ _ _ (h.1 e n),fun i hi=>opX_mono (fun a' w' hK=>wpX_mono hQ fuel _ a' w' hK) (h.2 i hi)⟩
theorem wpX_three {Q:Act->World->Prop} {fuel:Nat} {listed:Array Bool} {a:Act} {w:World} (i j k:Nat) (hB:(Region.ready .any ops listed == [i,j,k])=true)
  (h1:wpMix P ops S kd (fun a w=>wpX P ops S kd Q fuel (listed.setIfInBounds i true) a w) [i] a w) (h2:wpMix P ops S kd (fun a w=>wpX P ops S kd Q fuel (listed.setIfInBounds j true) a w) [j] a w)
  (h3:wpMix P ops S kd (fun a w=>wpX P ops S kd Q fuel (listed.setIfInBounds k true) a w) [k] a w):wpX P ops S kd Q (fuel+1) listed a w:=by
 have hr:Region.ready .any ops listed=[i,j,k]:=by simpa using hB
 refine ⟨(fun h=>by rw [hr] at h;cases h),fun m hm=>?_⟩
 rw [hr] at hm
 simp at hm
 rcases hm with rfl | rfl | rfl
 ·exact opX_mono (fun a' w' hK=>hK 0) h1
 ·exact opX_mono (fun a' w' hK=>hK 0) h2
 ·exact opX_mono (fun a' w' hK=>hK 0) h3
theorem wp_region_XJ {id:Nat} {Q:Exit->Act->World->Prop} {a:Act} {w:World} {l:List Oper} (S:Nat->Prop) (kd:Nat->Nat) (J:Act->Act->World->Prop) (hm:P.follows .mixedOrders=true)
  (h1:wpX P l.toArray S kd (J a) l.toArray.size (Array.replicate l.toArray.size false) a w) (h2:∀a' w',J a a' w'->Q .normal a' w'):(Code.region id l.toArray true).wp P Q a w:=
 wp_region_X S kd hm (wpX_mono h2 _ _ _ _ h1)
end
end Go.Proofs.YtjcdknhejcbpiaaGreat.Mix
namespace Go.Proofs.YtjcdknhejcbpiaaGreat
open Go.RowKit
set_option linter.unusedVariables false
set_option linter.unusedSimpArgs false
set_option linter.unusedSectionVars false
def fillA (f:Nat->Value) (z:Value) (n k:Nat):Array Value:=((List.range n).map fun i=>if i < k then f i else z).toArray
theorem fillA_get (f:Nat->Value) (z:Value) (n k i:Nat) (h:i < n):(fillA f z n k)[i]?=some (if i < k then f i else z):=by simp [fillA,h]
theorem fillA_size (f:Nat->Value) (z:Value) (n k:Nat):(fillA f z n k).size=n:=by simp [fillA]
theorem fillA_set (f:Nat->Value) (z:Value) (n k:Nat) (h:k < n):(fillA f z n k).setIfInBounds k (f k)=fillA f z n (k+1):=by
 apply Array.ext
 ·simp [fillA_size]
 ·intro i h1 h2
  rw [fillA_size] at h2
  apply Option.some.inj
  rw [<-Array.getElem?_eq_getElem,<-Array.getElem?_eq_getElem,fillA_get _ _ _ _ _ h2,Array.getElem?_setIfInBounds,fillA_size]
  by_cases e:k=i
  ·subst e;simp [h]
  ·rw [if_neg e,fillA_get _ _ _ _ _ h2]
   by_cases h3:i < k
   ·rw [if_pos h3,if_pos (by omega)]
   ·rw [if_neg h3,if_neg (by omega)]
theorem fillA_zero (f:Nat->Value) (z:Value) (n:Nat):madeX #[z] n=fillA f z n 0:=by
 apply Array.ext
 ·simp [fillA_size,madeX_size]
 ·intro i h1 h2
  rw [fillA_size] at h2
  simp [madeX,madeCells,fillA,Nat.mod_one]
structure FreeL (w:World) (lb n:Nat) (g:Int) (g0 g1 g2:Nat) (stk sts gns:Array Value):Prop where
 l:Blk w lb 211 #[.slice (some ⟨g0,0,none⟩) n n,.slice (some ⟨g1,0,none⟩) n n,.slice (some ⟨g2,0,none⟩) n n,.int .u64 g]
 b0:Blk w g0 3 stk
 b1:Blk w g1 213 sts
 b2:Blk w g2 54 gns
theorem FreeL.keep {w w':World} {lb n:Nat} {g:Int} {g0 g1 g2:Nat} {a b c:Array Value} {fp:Nat->Prop} (h:FreeL w lb n g g0 g1 g2 a b c) (ch:Ch fp w w') (h0:∀k,k=lb\/k=g0\/k=g1\/k=g2->¬fp k):FreeL w' lb n g g0 g1 g2 a b c:=
 ⟨ch.blk h.l (h0 _ (.inl rfl)),ch.blk h.b0 (h0 _ (.inr (.inl rfl))),ch.blk h.b1 (h0 _ (.inr (.inr (.inl rfl)))),ch.blk h.b2 (h0 _ (.inr (.inr (.inr rfl))))⟩
def FreeN (w:World) (lb n:Nat) (g:Int) (k:Nat):Prop:=∃g0 g1 g2,FreeL w lb n g g0 g1 g2 (fillA (fun i=>.int .i64 ((n:Int) - 1 - i)) (.int .i64 0) n k) (fillA (fun _=>.int .u8 0) (.int .u8 0) n n) (fillA (fun _=>.int .u64 1) (.int .u64 0) n k)
theorem fill_const (z:Value) (n k:Nat):fillA (fun _=>z) z n k=fillA (fun _=>z) z n n:=by simp [fillA]
def flDone (n:Nat) (g:Int) (w:World) (e:Ending) (w':World):Prop:=∃L,e=.returned (.tuple #[.pointer (some ⟨L,0,none⟩),.int .i64 0])/\(∃g0 g1 g2,FreeL w' L n g g0 g1 g2 (fillA (fun i=>.int .i64 ((n:Int) - 1 - i)) (.int .i64 0) n n) (fillA (fun _=>.int .u8 0) (.int .u8 0) n n) (fillA (fun _=>.int .u64 1) (.int .u64 0) n n)/\w.heap.size<=g0/\w.heap.size<=g1/\w.heap.size<=g2)/\Ch (fun _=>False) w w'/\w.heap.size<=L
theorem flnew_ok (n:Nat) (g:Int) (h1:1<=n) (h2:n<=16384) (g1:1<=g) (g2:g<=4294967295) (w:World):Calls Tryz.prog 79 #[.int .i64 (n:Int),.int .u64 g] w (flDone n g w):=by
 have hmk0:∀W:World,(Instr.makeSlice 77 (.int .i64 (n:Int)) (.int .i64 (n:Int))).run Tryz.prog W=.ok (.slice (some ⟨W.heap.size,0,none⟩) n n) (W.alloc (.cells (madeX (Value.cells (.int .i64 0)) (n * 1)) 3)):=fun W=>run_make_x (P:=Tryz.prog) 77 3 (.int .i64 0) 1 8 Tryz.underlying77 (by kernel_rfl) (by decide) n (by omega) W
 have hmk1:∀W:World,(Instr.makeSlice 209 (.int .i64 (n:Int)) (.int .i64 (n:Int))).run Tryz.prog W=.ok (.slice (some ⟨W.heap.size,0,none⟩) n n) (W.alloc (.cells (madeX (Value.cells (.int .u8 0)) (n * 1)) 213)):=fun W=>run_make_x (P:=Tryz.prog) 209 213 (.int .u8 0) 1 1 Tryz.underlying209 (by kernel_rfl) (by decide) n (by omega) W
 have hmk2:∀W:World,(Instr.makeSlice 189 (.int .i64 (n:Int)) (.int .i64 (n:Int))).run Tryz.prog W=.ok (.slice (some ⟨W.heap.size,0,none⟩) n n) (W.alloc (.cells (madeX (Value.cells (.int .u64 0)) (n * 1)) 54)):=fun W=>run_make_x (P:=Tryz.prog) 189 54 (.int .u64 0) 1 8 Tryz.underlying189 (by kernel_rfl) (by decide) n (by omega) W
 have e1:decide ((n:Int) < 1)=false:=decide_eq_false (by omega)
 have e2:decide ((16384:Int) < (n:Int))=false:=decide_eq_false (by omega)
 have e2':decide (16384 < n)=false:=decide_eq_false (by omega)
 have e3:decide (g < 1)=false:=decide_eq_false (by omega)
 have e4:decide (4294967295 < g)=false:=decide_eq_false (by omega)
 go_enter Tryz.func79,Tryz.ntmps79
 go_wp2_with fail
 obtain ⟨S,hS⟩:∃S:Nat->Prop,∀k,S k↔k < w.heap.size:=⟨_,fun _=>Iff.rfl⟩
 have HS:=hid hS
 clear hS
 have CC:=hid (Ch.refl (fun _=>False) w)
 refine Mix.wp_region_XJ S (fun i=>([1,3,1,3,1,3,1,0,3,0]:List Nat).getD i 0) (fun a0 a' w'=>∃g0 g1 g2 L,a'=((((((((((a0.put (some 22) (.int .i64 (n:Int))).put (some 24) (.int .i64 (n:Int))).put (some 26) (.int .i64 (n:Int))).put (some 28) (.int .u64 g)).put (some 23) (.slice (some ⟨g0,0,none⟩) n n)).put (some 25) (.slice (some ⟨g1,0,none⟩) n n)).put (some 27) (.slice (some ⟨g2,0,none⟩) n n)).put (some 29) (.agg #[.slice (some ⟨g0,0,none⟩) n n,.slice (some ⟨g1,0,none⟩) n n,.slice (some ⟨g2,0,none⟩) n n,.int .u64 g])).put (some 30) (.pointer (some ⟨L,0,none⟩))).put (some 6) (.pointer (some ⟨L,0,none⟩)))/\FreeL w' L n g g0 g1 g2 (madeX #[.int .i64 0] n) (madeX #[.int .u8 0] n) (madeX #[.int .u64 0] n)/\Ch (fun _=>False) w w'/\w.heap.size<=g0/\w.heap.size<=g1/\w.heap.size<=g2/\w.heap.size<=L) (by kernel_rfl) ?_ ?_
 ·refine Mix.wpX_prefix (fuel:=6) (by kernel_rfl) [0,2,4,6] _ _ _ (by kernel_rfl) ?_
  repeat (refine Mix.zp ?_;go_big_quiet_step (fail);refine wpQuiet_nil ?_)
  intro m0
  refine Mix.wpX_world fun V0 hV0=>?_
  have C0:=hid (show Ch (fun _=>False) w V0 from hV0 ▸ CC.out.drewN m0)
  clear hV0
  refine Mix.wpX_three 1 3 5 (by kernel_rfl) ?_ ?_ ?_
  {
 refine Mix.za fun W1 hW1=>?_
 obtain ⟨n1,rfl⟩:=hW1
 go_wp2_with fail
 refine ⟨fun j' hj'=>((((Ch.refl (fun _=>False) V0).drewN n1).alloc _).block j' (Nat.lt_of_lt_of_le ((HS.out j').1 hj') C0.out.size) id),?_⟩
 intro m1
 refine Mix.wpX_world fun V1 hV1=>?_
 have hv1:V1=((V0.drewN n1).alloc (.cells (madeX #[.int .i64 0] n) 3)).drewN m1:=by rw [hV1]
 clear hV1
 have C1:=hid (show Ch (fun _=>False) w V1 from hv1 ▸ (((C0.out.drewN n1).alloc _).drewN m1))
 have D1_0:=hid (show Blk V1 (V0.heap.size) 3 (madeX #[.int .i64 0] n) from hv1 ▸ ((Blk.new (V0.drewN n1) _ _).drewN m1))
 clear hv1
 refine Mix.wpX_two 3 5 (by kernel_rfl) ?_ ?_
 ·refine Mix.za fun W2 hW2=>?_
  obtain ⟨n2,rfl⟩:=hW2
  go_wp2_with fail
  refine ⟨fun j' hj'=>((((Ch.refl (fun _=>False) V1).drewN n2).alloc _).block j' (Nat.lt_of_lt_of_le ((HS.out j').1 hj') C1.out.size) id),?_⟩
  intro m2
  refine Mix.wpX_world fun V2 hV2=>?_
  have hv2:V2=((V1.drewN n2).alloc (.cells (madeX #[.int .u8 0] n) 213)).drewN m2:=by rw [hV2]
  clear hV2
  have C2:=hid (show Ch (fun _=>False) w V2 from hv2 ▸ (((C1.out.drewN n2).alloc _).drewN m2))
  have D2_0:=hid (show Blk V2 (V0.heap.size) 3 (madeX #[.int .i64 0] n) from hv2 ▸ (((D1_0.out.drewN n2).alloc _).drewN m2))
  have D2_1:=hid (show Blk V2 (V1.heap.size) 213 (madeX #[.int .u8 0] n) from hv2 ▸ ((Blk.new (V1.drewN n2) _ _).drewN m2))
  clear hv2
  refine Mix.wpX_prefix (fuel:=3) (by kernel_rfl) [5] _ _ _ (by kernel_rfl) ?_
  refine Mix.za fun W3 hW3=>?_
  obtain ⟨n3,rfl⟩:=hW3
  go_wp2_with fail
  refine ⟨fun j' hj'=>((((Ch.refl (fun _=>False) V2).drewN n3).alloc _).block j' (Nat.lt_of_lt_of_le ((HS.out j').1 hj') C2.out.size) id),?_⟩
  intro m3
  refine Mix.wpX_world fun V3 hV3=>?_
  have hv3:V3=((V2.drewN n3).alloc (.cells (madeX #[.int .u64 0] n) 54)).drewN m3:=by rw [hV3]
  clear hV3
  have C3:=hid (show Ch (fun _=>False) w V3 from hv3 ▸ (((C2.out.drewN n3).alloc _).drewN m3))
  have D3_0:=hid (show Blk V3 (V0.heap.size) 3 (madeX #[.int .i64 0] n) from hv3 ▸ (((D2_0.out.drewN n3).alloc _).drewN m3))
  have D3_1:=hid (show Blk V3 (V1.heap.size) 213 (madeX #[.int .u8 0] n) from hv3 ▸ (((D2_1.out.drewN n3).alloc _).drewN m3))
  have D3_2:=hid (show Blk V3 (V2.heap.size) 54 (madeX #[.int .u64 0] n) from hv3 ▸ ((Blk.new (V2.drewN n3) _ _).drewN m3))
  clear hv3
  refine Mix.wpX_prefix (fuel:=0) (by kernel_rfl) [7,8,9] _ _ _ (by kernel_rfl) ?_
  (refine Mix.zq ?_;go_big_quiet_step (fail);refine wpQuiet_nil ?_)
  refine Mix.za fun W4 hW4=>?_
  obtain ⟨n4,rfl⟩:=hW4
  go_wp2_with fail
  refine ⟨fun j' hj'=>((((Ch.refl (fun _=>False) V3).drewN n4).alloc _).block j' (Nat.lt_of_lt_of_le ((HS.out j').1 hj') C3.out.size) id),?_⟩
  (refine Mix.zq ?_;go_big_quiet_step (fail);refine wpQuiet_nil ?_)
  intro m4
  refine Mix.wpX_done (by kernel_rfl) ?_
  intro z4
  refine ⟨V0.heap.size,V1.heap.size,V2.heap.size,V3.heap.size,?_,⟨((((Blk.new (V3.drewN n4) _ _).drewN m4).drewN z4)),(((((D3_0.out.drewN n4).alloc _).drewN m4).drewN z4)),(((((D3_1.out.drewN n4).alloc _).drewN m4).drewN z4)),(((((D3_2.out.drewN n4).alloc _).drewN m4).drewN z4))⟩,(((((C3.out.drewN n4).alloc _).drewN m4).drewN z4)),C0.out.size,C1.out.size,C2.out.size,C3.out.size⟩
  simp only [Act.put,List.setIfInBounds_toArray,List.set_cons_succ,List.set_cons_zero]
 ·refine Mix.za fun W5 hW5=>?_
  obtain ⟨n5,rfl⟩:=hW5
  go_wp2_with fail
  refine ⟨fun j' hj'=>((((Ch.refl (fun _=>False) V1).drewN n5).alloc _).block j' (Nat.lt_of_lt_of_le ((HS.out j').1 hj') C1.out.size) id),?_⟩
  intro m5
  refine Mix.wpX_world fun V5 hV5=>?_
  have hv5:V5=((V1.drewN n5).alloc (.cells (madeX #[.int .u64 0] n) 54)).drewN m5:=by rw [hV5]
  clear hV5
  have C5:=hid (show Ch (fun _=>False) w V5 from hv5 ▸ (((C1.out.drewN n5).alloc _).drewN m5))
  have D5_0:=hid (show Blk V5 (V0.heap.size) 3 (madeX #[.int .i64 0] n) from hv5 ▸ (((D1_0.out.drewN n5).alloc _).drewN m5))
  have D5_2:=hid (show Blk V5 (V1.heap.size) 54 (madeX #[.int .u64 0] n) from hv5 ▸ ((Blk.new (V1.drewN n5) _ _).drewN m5))
  clear hv5
  refine Mix.wpX_prefix (fuel:=3) (by kernel_rfl) [3] _ _ _ (by kernel_rfl) ?_
  refine Mix.za fun W6 hW6=>?_
  obtain ⟨n6,rfl⟩:=hW6
  go_wp2_with fail
  refine ⟨fun j' hj'=>((((Ch.refl (fun _=>False) V5).drewN n6).alloc _).block j' (Nat.lt_of_lt_of_le ((HS.out j').1 hj') C5.out.size) id),?_⟩
  intro m6
  refine Mix.wpX_world fun V6 hV6=>?_
  have hv6:V6=((V5.drewN n6).alloc (.cells (madeX #[.int .u8 0] n) 213)).drewN m6:=by rw [hV6]
  clear hV6
  have C6:=hid (show Ch (fun _=>False) w V6 from hv6 ▸ (((C5.out.drewN n6).alloc _).drewN m6))
  have D6_0:=hid (show Blk V6 (V0.heap.size) 3 (madeX #[.int .i64 0] n) from hv6 ▸ (((D5_0.out.drewN n6).alloc _).drewN m6))
  have D6_2:=hid (show Blk V6 (V1.heap.size) 54 (madeX #[.int .u64 0] n) from hv6 ▸ (((D5_2.out.drewN n6).alloc _).drewN m6))
  have D6_1:=hid (show Blk V6 (V5.heap.size) 213 (madeX #[.int .u8 0] n) from hv6 ▸ ((Blk.new (V5.drewN n6) _ _).drewN m6))
  clear hv6
  refine Mix.wpX_prefix (fuel:=0) (by kernel_rfl) [7,8,9] _ _ _ (by kernel_rfl) ?_
  (refine Mix.zq ?_;go_big_quiet_step (fail);refine wpQuiet_nil ?_)
  refine Mix.za fun W7 hW7=>?_
  obtain ⟨n7,rfl⟩:=hW7
  go_wp2_with fail
  refine ⟨fun j' hj'=>((((Ch.refl (fun _=>False) V6).drewN n7).alloc _).block j' (Nat.lt_of_lt_of_le ((HS.out j').1 hj') C6.out.size) id),?_⟩
  (refine Mix.zq ?_;go_big_quiet_step (fail);refine wpQuiet_nil ?_)
  intro m7
  refine Mix.wpX_done (by kernel_rfl) ?_
  intro z7
  refine ⟨V0.heap.size,V5.heap.size,V1.heap.size,V6.heap.size,?_,⟨((((Blk.new (V6.drewN n7) _ _).drewN m7).drewN z7)),(((((D6_0.out.drewN n7).alloc _).drewN m7).drewN z7)),(((((D6_1.out.drewN n7).alloc _).drewN m7).drewN z7)),(((((D6_2.out.drewN n7).alloc _).drewN m7).drewN z7))⟩,(((((C6.out.drewN n7).alloc _).drewN m7).drewN z7)),C0.out.size,C5.out.size,C1.out.size,C6.out.size⟩
  simp only [Act.put,List.setIfInBounds_toArray,List.set_cons_succ,List.set_cons_zero]
 }
  {
 refine Mix.za fun W8 hW8=>?_
 obtain ⟨n8,rfl⟩:=hW8
 go_wp2_with fail
 refine ⟨fun j' hj'=>((((Ch.refl (fun _=>False) V0).drewN n8).alloc _).block j' (Nat.lt_of_lt_of_le ((HS.out j').1 hj') C0.out.size) id),?_⟩
 intro m8
 refine Mix.wpX_world fun V8 hV8=>?_
 have hv8:V8=((V0.drewN n8).alloc (.cells (madeX #[.int .u8 0] n) 213)).drewN m8:=by rw [hV8]
 clear hV8
 have C8:=hid (show Ch (fun _=>False) w V8 from hv8 ▸ (((C0.out.drewN n8).alloc _).drewN m8))
 have D8_1:=hid (show Blk V8 (V0.heap.size) 213 (madeX #[.int .u8 0] n) from hv8 ▸ ((Blk.new (V0.drewN n8) _ _).drewN m8))
 clear hv8
 refine Mix.wpX_two 1 5 (by kernel_rfl) ?_ ?_
 ·refine Mix.za fun W9 hW9=>?_
  obtain ⟨n9,rfl⟩:=hW9
  go_wp2_with fail
  refine ⟨fun j' hj'=>((((Ch.refl (fun _=>False) V8).drewN n9).alloc _).block j' (Nat.lt_of_lt_of_le ((HS.out j').1 hj') C8.out.size) id),?_⟩
  intro m9
  refine Mix.wpX_world fun V9 hV9=>?_
  have hv9:V9=((V8.drewN n9).alloc (.cells (madeX #[.int .i64 0] n) 3)).drewN m9:=by rw [hV9]
  clear hV9
  have C9:=hid (show Ch (fun _=>False) w V9 from hv9 ▸ (((C8.out.drewN n9).alloc _).drewN m9))
  have D9_1:=hid (show Blk V9 (V0.heap.size) 213 (madeX #[.int .u8 0] n) from hv9 ▸ (((D8_1.out.drewN n9).alloc _).drewN m9))
  have D9_0:=hid (show Blk V9 (V8.heap.size) 3 (madeX #[.int .i64 0] n) from hv9 ▸ ((Blk.new (V8.drewN n9) _ _).drewN m9))
  clear hv9
  refine Mix.wpX_prefix (fuel:=3) (by kernel_rfl) [5] _ _ _ (by kernel_rfl) ?_
  refine Mix.za fun W10 hW10=>?_
  obtain ⟨n10,rfl⟩:=hW10
  go_wp2_with fail
  refine ⟨fun j' hj'=>((((Ch.refl (fun _=>False) V9).drewN n10).alloc _).block j' (Nat.lt_of_lt_of_le ((HS.out j').1 hj') C9.out.size) id),?_⟩
  intro m10
  refine Mix.wpX_world fun V10 hV10=>?_
  have hv10:V10=((V9.drewN n10).alloc (.cells (madeX #[.int .u64 0] n) 54)).drewN m10:=by rw [hV10]
  clear hV10
  have C10:=hid (show Ch (fun _=>False) w V10 from hv10 ▸ (((C9.out.drewN n10).alloc _).drewN m10))
  have D10_1:=hid (show Blk V10 (V0.heap.size) 213 (madeX #[.int .u8 0] n) from hv10 ▸ (((D9_1.out.drewN n10).alloc _).drewN m10))
  have D10_0:=hid (show Blk V10 (V8.heap.size) 3 (madeX #[.int .i64 0] n) from hv10 ▸ (((D9_0.out.drewN n10).alloc _).drewN m10))
  have D10_2:=hid (show Blk V10 (V9.heap.size) 54 (madeX #[.int .u64 0] n) from hv10 ▸ ((Blk.new (V9.drewN n10) _ _).drewN m10))
  clear hv10
  refine Mix.wpX_prefix (fuel:=0) (by kernel_rfl) [7,8,9] _ _ _ (by kernel_rfl) ?_
  (refine Mix.zq ?_;go_big_quiet_step (fail);refine wpQuiet_nil ?_)
  refine Mix.za fun W11 hW11=>?_
  obtain ⟨n11,rfl⟩:=hW11
  go_wp2_with fail
  refine ⟨fun j' hj'=>((((Ch.refl (fun _=>False) V10).drewN n11).alloc _).block j' (Nat.lt_of_lt_of_le ((HS.out j').1 hj') C10.out.size) id),?_⟩
  (refine Mix.zq ?_;go_big_quiet_step (fail);refine wpQuiet_nil ?_)
  intro m11
  refine Mix.wpX_done (by kernel_rfl) ?_
  intro z11
  refine ⟨V8.heap.size,V0.heap.size,V9.heap.size,V10.heap.size,?_,⟨((((Blk.new (V10.drewN n11) _ _).drewN m11).drewN z11)),(((((D10_0.out.drewN n11).alloc _).drewN m11).drewN z11)),(((((D10_1.out.drewN n11).alloc _).drewN m11).drewN z11)),(((((D10_2.out.drewN n11).alloc _).drewN m11).drewN z11))⟩,(((((C10.out.drewN n11).alloc _).drewN m11).drewN z11)),C8.out.size,C0.out.size,C9.out.size,C10.out.size⟩
  simp only [Act.put,List.setIfInBounds_toArray,List.set_cons_succ,List.set_cons_zero]
 ·refine Mix.za fun W12 hW12=>?_
  obtain ⟨n12,rfl⟩:=hW12
  go_wp2_with fail
  refine ⟨fun j' hj'=>((((Ch.refl (fun _=>False) V8).drewN n12).alloc _).block j' (Nat.lt_of_lt_of_le ((HS.out j').1 hj') C8.out.size) id),?_⟩
  intro m12
  refine Mix.wpX_world fun V12 hV12=>?_
  have hv12:V12=((V8.drewN n12).alloc (.cells (madeX #[.int .u64 0] n) 54)).drewN m12:=by rw [hV12]
  clear hV12
  have C12:=hid (show Ch (fun _=>False) w V12 from hv12 ▸ (((C8.out.drewN n12).alloc _).drewN m12))
  have D12_1:=hid (show Blk V12 (V0.heap.size) 213 (madeX #[.int .u8 0] n) from hv12 ▸ (((D8_1.out.drewN n12).alloc _).drewN m12))
  have D12_2:=hid (show Blk V12 (V8.heap.size) 54 (madeX #[.int .u64 0] n) from hv12 ▸ ((Blk.new (V8.drewN n12) _ _).drewN m12))
  clear hv12
  refine Mix.wpX_prefix (fuel:=3) (by kernel_rfl) [1] _ _ _ (by kernel_rfl) ?_
  refine Mix.za fun W13 hW13=>?_
  obtain ⟨n13,rfl⟩:=hW13
  go_wp2_with fail
  refine ⟨fun j' hj'=>((((Ch.refl (fun _=>False) V12).drewN n13).alloc _).block j' (Nat.lt_of_lt_of_le ((HS.out j').1 hj') C12.out.size) id),?_⟩
  intro m13
  refine Mix.wpX_world fun V13 hV13=>?_
  have hv13:V13=((V12.drewN n13).alloc (.cells (madeX #[.int .i64 0] n) 3)).drewN m13:=by rw [hV13]
  clear hV13
  have C13:=hid (show Ch (fun _=>False) w V13 from hv13 ▸ (((C12.out.drewN n13).alloc _).drewN m13))
  have D13_1:=hid (show Blk V13 (V0.heap.size) 213 (madeX #[.int .u8 0] n) from hv13 ▸ (((D12_1.out.drewN n13).alloc _).drewN m13))
  have D13_2:=hid (show Blk V13 (V8.heap.size) 54 (madeX #[.int .u64 0] n) from hv13 ▸ (((D12_2.out.drewN n13).alloc _).drewN m13))
  have D13_0:=hid (show Blk V13 (V12.heap.size) 3 (madeX #[.int .i64 0] n) from hv13 ▸ ((Blk.new (V12.drewN n13) _ _).drewN m13))
  clear hv13
  refine Mix.wpX_prefix (fuel:=0) (by kernel_rfl) [7,8,9] _ _ _ (by kernel_rfl) ?_
  (refine Mix.zq ?_;go_big_quiet_step (fail);refine wpQuiet_nil ?_)
  refine Mix.za fun W14 hW14=>?_
  obtain ⟨n14,rfl⟩:=hW14
  go_wp2_with fail
  refine ⟨fun j' hj'=>((((Ch.refl (fun _=>False) V13).drewN n14).alloc _).block j' (Nat.lt_of_lt_of_le ((HS.out j').1 hj') C13.out.size) id),?_⟩
  (refine Mix.zq ?_;go_big_quiet_step (fail);refine wpQuiet_nil ?_)
  intro m14
  refine Mix.wpX_done (by kernel_rfl) ?_
  intro z14
  refine ⟨V12.heap.size,V0.heap.size,V8.heap.size,V13.heap.size,?_,⟨((((Blk.new (V13.drewN n14) _ _).drewN m14).drewN z14)),(((((D13_0.out.drewN n14).alloc _).drewN m14).drewN z14)),(((((D13_1.out.drewN n14).alloc _).drewN m14).drewN z14)),(((((D13_2.out.drewN n14).alloc _).drewN m14).drewN z14))⟩,(((((C13.out.drewN n14).alloc _).drewN m14).drewN z14)),C12.out.size,C0.out.size,C8.out.size,C13.out.size⟩
  simp only [Act.put,List.setIfInBounds_toArray,List.set_cons_succ,List.set_cons_zero]
 }
  {
 refine Mix.za fun W15 hW15=>?_
 obtain ⟨n15,rfl⟩:=hW15
 go_wp2_with fail
 refine ⟨fun j' hj'=>((((Ch.refl (fun _=>False) V0).drewN n15).alloc _).block j' (Nat.lt_of_lt_of_le ((HS.out j').1 hj') C0.out.size) id),?_⟩
 intro m15
 refine Mix.wpX_world fun V15 hV15=>?_
 have hv15:V15=((V0.drewN n15).alloc (.cells (madeX #[.int .u64 0] n) 54)).drewN m15:=by rw [hV15]
 clear hV15
 have C15:=hid (show Ch (fun _=>False) w V15 from hv15 ▸ (((C0.out.drewN n15).alloc _).drewN m15))
 have D15_2:=hid (show Blk V15 (V0.heap.size) 54 (madeX #[.int .u64 0] n) from hv15 ▸ ((Blk.new (V0.drewN n15) _ _).drewN m15))
 clear hv15
 refine Mix.wpX_two 1 3 (by kernel_rfl) ?_ ?_
 ·refine Mix.za fun W16 hW16=>?_
  obtain ⟨n16,rfl⟩:=hW16
  go_wp2_with fail
  refine ⟨fun j' hj'=>((((Ch.refl (fun _=>False) V15).drewN n16).alloc _).block j' (Nat.lt_of_lt_of_le ((HS.out j').1 hj') C15.out.size) id),?_⟩
  intro m16
  refine Mix.wpX_world fun V16 hV16=>?_
  have hv16:V16=((V15.drewN n16).alloc (.cells (madeX #[.int .i64 0] n) 3)).drewN m16:=by rw [hV16]
  clear hV16
  have C16:=hid (show Ch (fun _=>False) w V16 from hv16 ▸ (((C15.out.drewN n16).alloc _).drewN m16))
  have D16_2:=hid (show Blk V16 (V0.heap.size) 54 (madeX #[.int .u64 0] n) from hv16 ▸ (((D15_2.out.drewN n16).alloc _).drewN m16))
  have D16_0:=hid (show Blk V16 (V15.heap.size) 3 (madeX #[.int .i64 0] n) from hv16 ▸ ((Blk.new (V15.drewN n16) _ _).drewN m16))
  clear hv16
  refine Mix.wpX_prefix (fuel:=3) (by kernel_rfl) [3] _ _ _ (by kernel_rfl) ?_
  refine Mix.za fun W17 hW17=>?_
  obtain ⟨n17,rfl⟩:=hW17
  go_wp2_with fail
  refine ⟨fun j' hj'=>((((Ch.refl (fun _=>False) V16).drewN n17).alloc _).block j' (Nat.lt_of_lt_of_le ((HS.out j').1 hj') C16.out.size) id),?_⟩
  intro m17
  refine Mix.wpX_world fun V17 hV17=>?_
  have hv17:V17=((V16.drewN n17).alloc (.cells (madeX #[.int .u8 0] n) 213)).drewN m17:=by rw [hV17]
  clear hV17
  have C17:=hid (show Ch (fun _=>False) w V17 from hv17 ▸ (((C16.out.drewN n17).alloc _).drewN m17))
  have D17_2:=hid (show Blk V17 (V0.heap.size) 54 (madeX #[.int .u64 0] n) from hv17 ▸ (((D16_2.out.drewN n17).alloc _).drewN m17))
  have D17_0:=hid (show Blk V17 (V15.heap.size) 3 (madeX #[.int .i64 0] n) from hv17 ▸ (((D16_0.out.drewN n17).alloc _).drewN m17))
  have D17_1:=hid (show Blk V17 (V16.heap.size) 213 (madeX #[.int .u8 0] n) from hv17 ▸ ((Blk.new (V16.drewN n17) _ _).drewN m17))
  clear hv17
  refine Mix.wpX_prefix (fuel:=0) (by kernel_rfl) [7,8,9] _ _ _ (by kernel_rfl) ?_
  (refine Mix.zq ?_;go_big_quiet_step (fail);refine wpQuiet_nil ?_)
  refine Mix.za fun W18 hW18=>?_
  obtain ⟨n18,rfl⟩:=hW18
  go_wp2_with fail
  refine ⟨fun j' hj'=>((((Ch.refl (fun _=>False) V17).drewN n18).alloc _).block j' (Nat.lt_of_lt_of_le ((HS.out j').1 hj') C17.out.size) id),?_⟩
  (refine Mix.zq ?_;go_big_quiet_step (fail);refine wpQuiet_nil ?_)
  intro m18
  refine Mix.wpX_done (by kernel_rfl) ?_
  intro z18
  refine ⟨V15.heap.size,V16.heap.size,V0.heap.size,V17.heap.size,?_,⟨((((Blk.new (V17.drewN n18) _ _).drewN m18).drewN z18)),(((((D17_0.out.drewN n18).alloc _).drewN m18).drewN z18)),(((((D17_1.out.drewN n18).alloc _).drewN m18).drewN z18)),(((((D17_2.out.drewN n18).alloc _).drewN m18).drewN z18))⟩,(((((C17.out.drewN n18).alloc _).drewN m18).drewN z18)),C15.out.size,C16.out.size,C0.out.size,C17.out.size⟩
  simp only [Act.put,List.setIfInBounds_toArray,List.set_cons_succ,List.set_cons_zero]
 ·refine Mix.za fun W19 hW19=>?_
  obtain ⟨n19,rfl⟩:=hW19
  go_wp2_with fail
  refine ⟨fun j' hj'=>((((Ch.refl (fun _=>False) V15).drewN n19).alloc _).block j' (Nat.lt_of_lt_of_le ((HS.out j').1 hj') C15.out.size) id),?_⟩
  intro m19
  refine Mix.wpX_world fun V19 hV19=>?_
  have hv19:V19=((V15.drewN n19).alloc (.cells (madeX #[.int .u8 0] n) 213)).drewN m19:=by rw [hV19]
  clear hV19
  have C19:=hid (show Ch (fun _=>False) w V19 from hv19 ▸ (((C15.out.drewN n19).alloc _).drewN m19))
  have D19_2:=hid (show Blk V19 (V0.heap.size) 54 (madeX #[.int .u64 0] n) from hv19 ▸ (((D15_2.out.drewN n19).alloc _).drewN m19))
  have D19_1:=hid (show Blk V19 (V15.heap.size) 213 (madeX #[.int .u8 0] n) from hv19 ▸ ((Blk.new (V15.drewN n19) _ _).drewN m19))
  clear hv19
  refine Mix.wpX_prefix (fuel:=3) (by kernel_rfl) [1] _ _ _ (by kernel_rfl) ?_
  refine Mix.za fun W20 hW20=>?_
  obtain ⟨n20,rfl⟩:=hW20
  go_wp2_with fail
  refine ⟨fun j' hj'=>((((Ch.refl (fun _=>False) V19).drewN n20).alloc _).block j' (Nat.lt_of_lt_of_le ((HS.out j').1 hj') C19.out.size) id),?_⟩
  intro m20
  refine Mix.wpX_world fun V20 hV20=>?_
  have hv20:V20=((V19.drewN n20).alloc (.cells (madeX #[.int .i64 0] n) 3)).drewN m20:=by rw [hV20]
  clear hV20
  have C20:=hid (show Ch (fun _=>False) w V20 from hv20 ▸ (((C19.out.drewN n20).alloc _).drewN m20))
  have D20_2:=hid (show Blk V20 (V0.heap.size) 54 (madeX #[.int .u64 0] n) from hv20 ▸ (((D19_2.out.drewN n20).alloc _).drewN m20))
  have D20_1:=hid (show Blk V20 (V15.heap.size) 213 (madeX #[.int .u8 0] n) from hv20 ▸ (((D19_1.out.drewN n20).alloc _).drewN m20))
  have D20_0:=hid (show Blk V20 (V19.heap.size) 3 (madeX #[.int .i64 0] n) from hv20 ▸ ((Blk.new (V19.drewN n20) _ _).drewN m20))
  clear hv20
  refine Mix.wpX_prefix (fuel:=0) (by kernel_rfl) [7,8,9] _ _ _ (by kernel_rfl) ?_
  (refine Mix.zq ?_;go_big_quiet_step (fail);refine wpQuiet_nil ?_)
  refine Mix.za fun W21 hW21=>?_
  obtain ⟨n21,rfl⟩:=hW21
  go_wp2_with fail
  refine ⟨fun j' hj'=>((((Ch.refl (fun _=>False) V20).drewN n21).alloc _).block j' (Nat.lt_of_lt_of_le ((HS.out j').1 hj') C20.out.size) id),?_⟩
  (refine Mix.zq ?_;go_big_quiet_step (fail);refine wpQuiet_nil ?_)
  intro m21
  refine Mix.wpX_done (by kernel_rfl) ?_
  intro z21
  refine ⟨V19.heap.size,V15.heap.size,V0.heap.size,V20.heap.size,?_,⟨((((Blk.new (V20.drewN n21) _ _).drewN m21).drewN z21)),(((((D20_0.out.drewN n21).alloc _).drewN m21).drewN z21)),(((((D20_1.out.drewN n21).alloc _).drewN m21).drewN z21)),(((((D20_2.out.drewN n21).alloc _).drewN m21).drewN z21))⟩,(((((C20.out.drewN n21).alloc _).drewN m21).drewN z21)),C19.out.size,C15.out.size,C0.out.size,C20.out.size⟩
  simp only [Act.put,List.setIfInBounds_toArray,List.set_cons_succ,List.set_cons_zero]
 }
 ·rintro a' W3 ⟨g0,g1,g2,L,rfl,hF,hC,hz0,hz1,hz2,hzL⟩
  simp only [Act.put,List.setIfInBounds_toArray,List.set_cons_succ,List.set_cons_zero]
  clear hmk0 hmk1 hmk2
  have HF:=hid (show FreeL W3 L n g g0 g1 g2 (fillA (fun i=>.int .i64 ((n:Int) - 1 - i)) (.int .i64 0) n 0) (fillA (fun _=>.int .u8 0) (.int .u8 0) n n) (fillA (fun _=>.int .u64 1) (.int .u64 0) n 0) by
   rw [<-fillA_zero,<-fillA_zero,<-fill_const _ n 0,<-fillA_zero];exact hF)
  have HC:=hid hC
  clear hF hC
  go_wp2_with fail
  go_loopw [32] (fun i W=>∃k:Nat,k<=n/\i=.int .i64 k/\FreeL W L n g g0 g1 g2 (fillA (fun i=>.int .i64 ((n:Int) - 1 - i)) (.int .i64 0) n k) (fillA (fun _=>.int .u8 0) (.int .u8 0) n n) (fillA (fun _=>.int .u64 1) (.int .u64 0) n k)/\Ch (fun _=>False) w W) (fun i _=>n - (intOf i).toNat)
  case atStart=>exact ⟨0,Nat.zero_le _,rfl,HF.out,HC.out⟩
  case round=>
   (
 obtain ⟨k,hk,rfl,hF,hC⟩:=hrel
 by_cases hlt:k < n
 ·have c0:wr.cell? ⟨L,0,none⟩=some (.slice (some ⟨g0,0,none⟩) n n):=hF.l.cell 0
  have c2:wr.cell? ⟨L,2,none⟩=some (.slice (some ⟨g2,0,none⟩) n n):=hF.l.cell 2
  have s0:wr.cell? ⟨g0,k,none⟩=some (.int .i64 0):=(hF.b0.cell k).trans (by rw [fillA_get _ _ _ _ _ hlt,if_neg (Nat.lt_irrefl k)])
  have s2:wr.cell? ⟨g2,k,none⟩=some (.int .u64 0):=(hF.b2.cell k).trans (by rw [fillA_get _ _ _ _ _ hlt,if_neg (Nat.lt_irrefl k)])
  have f0:=hF.b0.free k
  have f2:=hF.b2.free k
  have n1:L≠g0:=Blk.ne hF.l hF.b0 (by decide)
  have n2:g0≠L:=Ne.symm n1
  have n3:L≠g2:=Blk.ne hF.l hF.b2 (by decide)
  have n4:g2≠L:=Ne.symm n3
  have n5:g0≠g2:=Blk.ne hF.b0 hF.b2 (by decide)
  have n6:g2≠g0:=Ne.symm n5
  have HF2:=hid hF
  have HC2:=hid hC
  clear hF hC
  go_wp2_with fail
  have hF:=HF2.out
  refine ⟨⟨k+1,hlt,by push_cast;rfl,⟨(hF.l.far n1 _).far n3 _,?_,(hF.b1.far (Blk.ne hF.b1 hF.b0 (by decide)) _).far (Blk.ne hF.b1 hF.b2 (by decide)) _,?_⟩,(HC2.out.set (fun ho=>absurd (Nat.lt_of_lt_of_le ho hz0) (Nat.lt_irrefl _)) _).set (fun ho=>absurd (Nat.lt_of_lt_of_le ho hz2) (Nat.lt_irrefl _)) _⟩,by simp only [intOf];omega⟩
  ·rw [<-fillA_set _ _ _ _ hlt];exact (hF.b0.put k _).far n5 _
  ·rw [<-fillA_set _ _ _ _ hlt];exact (hF.b2.far n6 _).put k _
 ·obtain rfl:k=n:=by omega
  have HF2:=hid hF
  have HC2:=hid hC
  clear hF hC
  go_wp2_with fail
  go_ret2
  exact ⟨L,rfl,⟨g0,g1,g2,HF2.out,hz0,hz1,hz2⟩,HC2.out,hzL⟩
 )
structure ArN (w:World) (ab n:Nat) (g:Int) (lb mb:Nat):Prop where
 a:Blk w ab 164 #[.int .i64 n,.pointer (some ⟨lb,0,none⟩),.map (some mb),.int .i64 0,.int .i64 0,.int .i64 0]
 m:w.heap[mb]?=some (.map #[] 0)
 f:FreeN w lb n g n
def arDone (n:Nat) (g:Int) (w:World) (e:Ending) (w':World):Prop:=∃ab lb mb,e=.returned (.tuple #[.pointer (some ⟨ab,0,none⟩),.int .i64 0])/\ArN w' ab n g lb mb/\Ch (fun _=>False) w w'/\(w.heap.size<=ab/\w.heap.size<=lb/\w.heap.size<=mb/\∃g0 g1 g2,FreeL w' lb n g g0 g1 g2 (fillA (fun i=>.int .i64 ((n:Int) - 1 - i)) (.int .i64 0) n n) (fillA (fun _=>.int .u8 0) (.int .u8 0) n n) (fillA (fun _=>.int .u64 1) (.int .u64 0) n n)/\w.heap.size<=g0/\w.heap.size<=g1/\w.heap.size<=g2)
theorem anew_ok (n:Nat) (g:Int) (h1:1<=n) (h2:n<=16384) (g1:1<=g) (g2:g<=4294967295) (w:World):Calls Tryz.prog 46 #[.int .i64 (n:Int),.int .u64 g] w (arDone n g w):=by
 have hmm:=@run_makeMap Tryz.prog
 go_enter Tryz.func46,Tryz.ntmps46
 go_wp2_with fail
 refine (flnew_ok n g h1 h2 g1 g2 w).mono ?_
 rintro e w1 ⟨L,rfl,hF,hC,hL⟩
 have HF:=hid hF
 have HC:=hid hC
 clear hF hC
 go_wp2_with fail
 go_ret2
 obtain ⟨q0,q1,q2,hf,hq0,hq1,hq2⟩:=HF.out
 refine ⟨w1.heap.size+1,L,w1.heap.size,rfl,⟨?_,?_,⟨q0,q1,q2,hf.keep (((Ch.refl (fun _=>False) w1).alloc _).alloc _) (fun _ _=>id)⟩⟩,(HC.out.alloc _).alloc _,Nat.le_succ_of_le HC.out.size,hL,HC.out.size,q0,q1,q2,hf.keep (((Ch.refl (fun _=>False) w1).alloc _).alloc _) (fun _ _=>id),hq0,hq1,hq2⟩
 ·have:=Blk.new (w1.alloc (.map #[] 0)) 164 #[.int .i64 n,.pointer (some ⟨L,0,none⟩),.map (some w1.heap.size),.int .i64 0,.int .i64 0,.int .i64 0]
  simpa using this
 ·show ((w1.heap.push (.map #[] 0)).push _)[w1.heap.size]?=_
  simp [Array.getElem?_push]
end Go.Proofs.YtjcdknhejcbpiaaGreat
