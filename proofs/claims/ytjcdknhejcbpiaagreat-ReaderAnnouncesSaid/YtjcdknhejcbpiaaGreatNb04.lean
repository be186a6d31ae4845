/- Lemmas that the proof of the last text leans on; no condition. -/
import Derived.Test.YtjcdknhejcbpiaaGreatNb03
namespace Go.Proofs.YtjcdknhejcbpiaaGreat
open Go.RowKit
set_option linter.unusedVariables false
set_option linter.unusedSimpArgs false
set_option linter.unusedSectionVars false
structure Rv where
  num : Int
  at' : Int
  h : Int
  b : Int
  r : Int
  l : Int
def rvCells (x : Rv) (mv dv : Value) : List Value := [.int .i64 x.num, .int .u64 x.at', .int .i64 x.h, .int .i64 x.b, .int .i64 x.r, .int .i64 x.l, mv, dv]
def rvA (x : Rv) (mv dv : Value) : Array Value := #[.int .i64 x.num, .int .u64 x.at', .int .i64 x.h, .int .i64 x.b, .int .i64 x.r, .int .i64 x.l, mv, dv]
theorem at_world {E : Act → World → Prop} {a : Act} {w : World} (h : ∀ W, W = w → E a W) : E a w := h w rfl
set_option maxRecDepth 100000 in
set_option maxHeartbeats 1000000 in
theorem copied_any (x : Rv) (am ad : Option Addr) (n1 c1 n2 c2 : Nat) (ms : List Mk) (ds : List Pc) (w : World) (hm : InMk w am n1 ms) (hd : InPc w ad n2 ds) (zm : am = none → c1 = 0) (zd : ad = none → c2 = 0) (h1 : n1 < 1000) (h2 : n2 < 1000) :
    Calls Tryz.prog 60 #[.agg #[.int .i64 x.num, .int .u64 x.at', .int .i64 x.h, .int .i64 x.b, .int .i64 x.r, .int .i64 x.l, .slice am n1 c1, .slice ad n2 c2]] w fun e w' => ∃ mv dv, e = .returned (.agg (rvA x mv dv)) ∧ w'.ownsRow w.heap.size 160 3 mv n1 (mkCells ms) ∧ w'.ownsRow w.heap.size 217 3 dv n2 (pcCells ds) ∧ Ch (fun _ => False) w w' := by
  have hm1 := hm.1
  have hd1 := hd.1
  go_enter Tryz.func60, Tryz.ntmps60
  go_wp2_with fail
  obtain ⟨S, hS⟩ : ∃ S : Nat → Prop, ∀ k, S k ↔ k = w.heap.size := ⟨_, fun _ => Iff.rfl⟩
  have hSp : Mix.Has S w.heap.size := (hS _).2 rfl
  have HS := hid hS
  clear hS
  refine Mix.wp_region_mix S (fun i => ([0, 0, 3, 1, 4, 2, 1, 2, 0, 2] : List Nat).getD i 0) [0, 1, 3, 4, 2, 6, 5, 7, 8, 9] (by kernel_rfl) (by kernel_rfl) ?_
  refine Mix.mix_world fun W0 hW0 => ?_
  have cW : Ch (fun _ => False) w W0 := by rw [hW0]; exact ((Ch.refl _ w).alloc _).alloc _
  have bB : Blk W0 w.heap.size 104 #[.int .i64 x.num, .int .u64 x.at', .int .i64 x.h, .int .i64 x.b, .int .i64 x.r, .int .i64 x.l, .slice am n1 c1, .slice ad n2 c2] := by rw [hW0]; exact (Blk.new w _ _).alloc _
  have bR : Blk W0 (w.heap.size + 1) 104 #[.int .i64 0, .int .u64 0, .int .i64 0, .int .i64 0, .int .i64 0, .int .i64 0, .slice none 0 0, .slice none 0 0] := by
    rw [hW0]
    have := Blk.new (w.alloc (.cells #[.int .i64 x.num, .int .u64 x.at', .int .i64 x.h, .int .i64 x.b, .int .i64 x.r, .int .i64 x.l, .slice am n1 c1, .slice ad n2 c2] 104)) 104 #[.int .i64 0, .int .u64 0, .int .i64 0, .int .i64 0, .int .i64 0, .int .i64 0, .slice none 0 0, .slice none 0 0]
    simpa using this
  have c6 : W0.cell? ⟨w.heap.size, 6, none⟩ = some (.slice am n1 c1) := bB.cell 6
  have c7 : W0.cell? ⟨w.heap.size, 7, none⟩ = some (.slice ad n2 c2) := bB.cell 7
  have HM := hid (hm.keep cW (fun _ _ _ _ => id))
  have HD := hid (hd.keep cW (fun _ _ _ _ => id))
  have HB := hid bB
  have HR := hid bR
  have HC := hid cW
  clear hW0 bB bR cW hm hd
  repeat (first | (refine Mix.mix_q (by simp only [List.getElem?_toArray, List.getElem?_cons_zero, List.getElem?_cons_succ]; exact rfl) rfl ?_; go_big_quiet_step (fail); refine wpQuiet_nil ?_) | (refine Mix.mix_p (by simp only [List.getElem?_toArray, List.getElem?_cons_zero, List.getElem?_cons_succ]; exact rfl) rfl rfl ?_; go_big_quiet_step (fail); refine wpQuiet_nil ?_) | (refine Mix.mix_s (by simp only [List.getElem?_toArray, List.getElem?_cons_zero, List.getElem?_cons_succ]; exact rfl) rfl rfl ?_; go_big_quiet_step (fail); refine wpQuiet_nil ?_))
  refine Mix.mix_a (by simp only [List.getElem?_toArray, List.getElem?_cons_zero, List.getElem?_cons_succ]; exact rfl) rfl fun W1 hW1 => ?_
  obtain ⟨k1, rfl⟩ := hW1
  go_wp2_with fail
  refine (cloneMarks_any am n1 c1 ms (W0.drewN k1) (HM.out.keep ((Ch.refl (fun _ => False) W0).drewN k1) (fun _ _ _ _ => id)) (by omega) zm).mono ?_
  rintro e w2 ⟨mv, rfl, hown, hc⟩
  rw [hm1] at hown
  obtain ⟨ma, mc, hmv, hmc⟩ := own_slice hown
  subst hmv
  have c2 : Ch (fun _ => False) W0 w2 := hc.ofDrewN
  have hkeep : Mix.Keep S W0 w2 := fun k hk => by rw [(HS.out k).1 hk]; exact c2.block _ HB.out.lt id
  have HO1 := hid (own_mono hown (show w.heap.size ≤ (W0.drewN k1).heap.size from HC.out.size))
  have HB2 := hid (c2.blk HB.out id)
  have HR2 := hid (c2.blk HR.out id)
  have HD2 := hid (HD.out.keep c2 (fun _ _ _ _ => id))
  have HC2 := hid (HC.out.trans c2 (fun _ _ h => h))
  clear hown hc c2 c6 c7
  go_wp2_with fail
  refine ⟨hkeep, ?_⟩
  clear hkeep
  repeat (first | (refine Mix.mix_q (by simp only [List.getElem?_toArray, List.getElem?_cons_zero, List.getElem?_cons_succ]; exact rfl) rfl ?_; go_big_quiet_step (fail); refine wpQuiet_nil ?_) | (refine Mix.mix_p (by simp only [List.getElem?_toArray, List.getElem?_cons_zero, List.getElem?_cons_succ]; exact rfl) rfl rfl ?_; go_big_quiet_step (fail); refine wpQuiet_nil ?_) | (refine Mix.mix_s (by simp only [List.getElem?_toArray, List.getElem?_cons_zero, List.getElem?_cons_succ]; exact rfl) rfl rfl ?_; go_big_quiet_step (fail); refine wpQuiet_nil ?_))
  refine Mix.mix_e (by simp only [List.getElem?_toArray, List.getElem?_cons_zero, List.getElem?_cons_succ]; exact rfl) rfl fun W3 hW3 => ?_
  obtain ⟨k2, rfl⟩ := hW3
  go_wp2_with fail
  refine (clonePieces_any ad n2 c2 ds (w2.drewN k2) (HD2.out.keep ((Ch.refl (fun _ => False) w2).drewN k2) (fun _ _ _ _ => id)) (by omega) zd).mono ?_
  rintro e w4 ⟨dv, rfl, hown, hc⟩
  rw [hd1] at hown
  obtain ⟨da, dc, hdv, hdc⟩ := own_slice hown
  subst hdv
  have c4 : Ch (fun _ => False) w2 w4 := hc.ofDrewN
  have HO2 := hid (own_mono hown (show w.heap.size ≤ (w2.drewN k2).heap.size from HC2.out.size))
  have HO1b := hid (c4.own HO1.out (fun _ _ => id))
  have HB4 := hid (c4.blk HB2.out id)
  have HR4 := hid (c4.blk HR2.out id)
  have HC4 := hid (HC2.out.trans c4 (fun _ _ h => h))
  have f6 := HB4.out.free 6
  have f7 := HB4.out.free 7
  have c6 : w4.cell? ⟨w.heap.size, 6, none⟩ = some (.slice am n1 c1) := HB4.out.cell 6
  have c7 : w4.cell? ⟨w.heap.size, 7, none⟩ = some (.slice ad n2 c2) := HB4.out.cell 7
  clear hown hc c4
  go_wp2_with fail
  repeat (first | (refine Mix.mix_q (by simp only [List.getElem?_toArray, List.getElem?_cons_zero, List.getElem?_cons_succ]; exact rfl) rfl ?_; go_big_quiet_step (fail); refine wpQuiet_nil ?_) | (refine Mix.mix_p (by simp only [List.getElem?_toArray, List.getElem?_cons_zero, List.getElem?_cons_succ]; exact rfl) rfl rfl ?_; go_big_quiet_step (fail); refine wpQuiet_nil ?_) | (refine Mix.mix_s (by simp only [List.getElem?_toArray, List.getElem?_cons_zero, List.getElem?_cons_succ]; exact rfl) rfl rfl ?_; go_big_quiet_step (fail); refine wpQuiet_nil ?_))
  refine Mix.mix_e (by simp only [List.getElem?_toArray, List.getElem?_cons_zero, List.getElem?_cons_succ]; exact rfl) rfl fun W5 hW5 => ?_
  obtain ⟨k3, rfl⟩ := hW5
  go_wp2_with fail
  repeat (first | (refine Mix.mix_q (by simp only [List.getElem?_toArray, List.getElem?_cons_zero, List.getElem?_cons_succ]; exact rfl) rfl ?_; go_big_quiet_step (fail); refine wpQuiet_nil ?_) | (refine Mix.mix_p (by simp only [List.getElem?_toArray, List.getElem?_cons_zero, List.getElem?_cons_succ]; exact rfl) rfl rfl ?_; go_big_quiet_step (fail); refine wpQuiet_nil ?_) | (refine Mix.mix_s (by simp only [List.getElem?_toArray, List.getElem?_cons_zero, List.getElem?_cons_succ]; exact rfl) rfl rfl ?_; go_big_quiet_step (fail); refine wpQuiet_nil ?_))
  refine Mix.mix_e (by simp only [List.getElem?_toArray, List.getElem?_cons_zero, List.getElem?_cons_succ]; exact rfl) rfl fun W6 hW6 => ?_
  obtain ⟨k4, rfl⟩ := hW6
  go_wp2_with fail
  intro k5
  refine at_world fun W6 hW6 => ?_
  have hne1 : w.heap.size + 1 ≠ w.heap.size := by omega
  have B6 : Blk W6 w.heap.size 104 #[.int .i64 x.num, .int .u64 x.at', .int .i64 x.h, .int .i64 x.b, .int .i64 x.r, .int .i64 x.l, .slice ma n1 mc, .slice da n2 dc] := by
    rw [hW6]; exact ((((HB4.out.drewN k3).put 6 (.slice ma n1 mc)).drewN k4).put 7 (.slice da n2 dc)).drewN k5
  have R6 : Blk W6 (w.heap.size + 1) 104 #[.int .i64 0, .int .u64 0, .int .i64 0, .int .i64 0, .int .i64 0, .int .i64 0, .slice none 0 0, .slice none 0 0] := by
    rw [hW6]; exact ((((HR4.out.drewN k3).far (p := ⟨w.heap.size, 6, none⟩) hne1 _).drewN k4).far (p := ⟨w.heap.size, 7, none⟩) hne1 _).drewN k5
  have c6 : Ch (fun k => k = w.heap.size) w4 W6 := by
    rw [hW6]; exact ((((Ch.refl (fun k => k = w.heap.size) w4).drewN k3).set (fun _ => rfl) _).drewN k4 |>.set (fun _ => rfl) _).drewN k5
  have o1 := HB4.out.own HO1b.out (by decide)
  have o2 := HB4.out.own HO2.out (by decide)
  have HO6 := hid (c6.own HO1b.out (fun k hk e => o1 (by rw [hk, e])))
  have HP6 := hid (c6.own HO2.out (fun k hk e => o2 (by rw [hk, e])))
  have HC6 := hid (HC4.out.trans c6 (fun i hi e => absurd hi (by omega)))
  have b0 : W6.cell? ⟨w.heap.size, 0, none⟩ = some (.int .i64 x.num) := B6.cell 0
  have b1 : W6.cell? ⟨w.heap.size, 1, none⟩ = some (.int .u64 x.at') := B6.cell 1
  have b2 : W6.cell? ⟨w.heap.size, 2, none⟩ = some (.int .i64 x.h) := B6.cell 2
  have b3 : W6.cell? ⟨w.heap.size, 3, none⟩ = some (.int .i64 x.b) := B6.cell 3
  have b4 : W6.cell? ⟨w.heap.size, 4, none⟩ = some (.int .i64 x.r) := B6.cell 4
  have b5 : W6.cell? ⟨w.heap.size, 5, none⟩ = some (.int .i64 x.l) := B6.cell 5
  have b6 : W6.cell? ⟨w.heap.size, 6, none⟩ = some (.slice ma n1 mc) := B6.cell 6
  have b7 : W6.cell? ⟨w.heap.size, 7, none⟩ = some (.slice da n2 dc) := B6.cell 7
  have r0 : W6.cell? ⟨w.heap.size + 1, 0, none⟩ = some (.int .i64 0) := R6.cell 0
  have r1 : W6.cell? ⟨w.heap.size + 1, 1, none⟩ = some (.int .u64 0) := R6.cell 1
  have r2 : W6.cell? ⟨w.heap.size + 1, 2, none⟩ = some (.int .i64 0) := R6.cell 2
  have r3 : W6.cell? ⟨w.heap.size + 1, 3, none⟩ = some (.int .i64 0) := R6.cell 3
  have r4 : W6.cell? ⟨w.heap.size + 1, 4, none⟩ = some (.int .i64 0) := R6.cell 4
  have r5 : W6.cell? ⟨w.heap.size + 1, 5, none⟩ = some (.int .i64 0) := R6.cell 5
  have r6 : W6.cell? ⟨w.heap.size + 1, 6, none⟩ = some (.slice none 0 0) := R6.cell 6
  have r7 : W6.cell? ⟨w.heap.size + 1, 7, none⟩ = some (.slice none 0 0) := R6.cell 7
  have s0 := R6.free 0
  have s1 := R6.free 1
  have s2 := R6.free 2
  have s3 := R6.free 3
  have s4 := R6.free 4
  have s5 := R6.free 5
  have s6 := R6.free 6
  have s7 := R6.free 7
  clear hW6 c6 o1 o2 f6 f7 c7
  go_wp2_with fail
  refine at_world fun W7 hW7 => ?_
  have R7 : Blk W7 (w.heap.size + 1) 104 #[.int .i64 x.num, .int .u64 x.at', .int .i64 x.h, .int .i64 x.b, .int .i64 x.r, .int .i64 x.l, .slice ma n1 mc, .slice da n2 dc] := by
    rw [hW7]; exact (((((((R6.put 0 _).put 1 _).put 2 _).put 3 _).put 4 _).put 5 _).put 6 _).put 7 _
  have c7 : Ch (fun k => k = w.heap.size + 1) W6 W7 := by
    rw [hW7]; exact ((((((((Ch.refl (fun k => k = w.heap.size + 1) W6).set (fun _ => rfl) _).set (fun _ => rfl) _).set (fun _ => rfl) _).set (fun _ => rfl) _).set (fun _ => rfl) _).set (fun _ => rfl) _).set (fun _ => rfl) _).set (fun _ => rfl) _
  have o1 := R6.own HO6.out (by decide)
  have o2 := R6.own HP6.out (by decide)
  have t0 : W7.cell? ⟨w.heap.size + 1, 0, none⟩ = some (.int .i64 x.num) := R7.cell 0
  have t1 : W7.cell? ⟨w.heap.size + 1, 1, none⟩ = some (.int .u64 x.at') := R7.cell 1
  have t2 : W7.cell? ⟨w.heap.size + 1, 2, none⟩ = some (.int .i64 x.h) := R7.cell 2
  have t3 : W7.cell? ⟨w.heap.size + 1, 3, none⟩ = some (.int .i64 x.b) := R7.cell 3
  have t4 : W7.cell? ⟨w.heap.size + 1, 4, none⟩ = some (.int .i64 x.r) := R7.cell 4
  have t5 : W7.cell? ⟨w.heap.size + 1, 5, none⟩ = some (.int .i64 x.l) := R7.cell 5
  have t6 : W7.cell? ⟨w.heap.size + 1, 6, none⟩ = some (.slice ma n1 mc) := R7.cell 6
  have t7 : W7.cell? ⟨w.heap.size + 1, 7, none⟩ = some (.slice da n2 dc) := R7.cell 7
  refine bodyPost_ret (v := .agg (rvA x (.slice ma n1 mc) (.slice da n2 dc))) ?_ rfl ⟨_, _, rfl, c7.own HO6.out (fun k hk e => o1 (by rw [hk, e])), c7.own HP6.out (fun k hk e => o2 (by rw [hk, e])), HC6.out.trans c7 (fun i hi e => absurd hi (by omega))⟩
  clear hW7 c7 o1 o2
  simp [results, Tryz.results60, go_sem, rvA, t0, t1, t2, t3, t4, t5, t6, t7]
end Go.Proofs.YtjcdknhejcbpiaaGreat
