/- The feed's run: last, produce. -/
import Derived.Test.YtonjbofdmmnpdaaFeedH
namespace Go.Proofs.Ytonjbofdmmnpdaa
open Go.RowKit
set_option linter.unusedVariables false
set_option linter.unusedSimpArgs false
set_option linter.unusedSectionVars false

def ptrO {α : Type} (b : Nat) : Option α → Value
  | none => .pointer none
  | some _ => .pointer (some ⟨b, 0, none⟩)
def xCells (fb : Nat) (pv rv vp vi vg vl : Value) (x : Xs) : Array Value :=
  #[.pointer (some ⟨fb, 0, none⟩), pv, rv, .int .i64 x.f.n, vp, vi, .int .i64 x.ended, vg, vl, .int .i64 x.steps, .int .i64 x.takes, .bool x.full, .int .i64 x.looked, .bool x.clean, .bool true, .bool true, .bool true, .bool true, .bool true, .bool true]
/-- A run in memory. -/
def RunX (B p cb fb X : Nat) (x : Xs) (w0 w : World) : Prop :=
  ∃ lv vp vi vg vl pb rb, RunW B p cb fb X lv vp vi vg vl x.s x.f (xCells fb (ptrO pb x.P) (ptrO rb x.R) vp vi vg vl x) x.pushed x.items x.got x.lags (x.P.map (fun q => (pb, q))) (x.R.map (fun r => (rb, r))) w0 w

theorem flist_length (s : BS) (F : Fd) : (flist s F).length = flen s F := by simp [flist, flen]

theorem u64V_get (l : List Int) (i : Nat) (h : i < l.length) : (u64V l)[i]? = some (.int .u64 (lk l i)) := by simp [u64V, lk, h]
/-- The last element of a row of words. -/
theorem row_last {w : World} {B n : Nat} {v : Value} {l : List Int} (h : w.ownsRow B 35 1 v n (u64V l)) (hn : l.length = n) (h0 : 0 < n) : ∃ g cap, v = .slice (some ⟨g, 0, none⟩) n cap ∧ n ≤ cap ∧ w.cell? ⟨g, n - 1, none⟩ = some (.int .u64 (lastI l)) := by
  obtain ⟨g, cap, rfl, hc, _, _, _⟩ := own_form h h0
  refine ⟨g, cap, rfl, hc, ?_⟩
  have := h.cells (g := g) rfl (n - 1) (.int .u64 (lk l (n - 1))) (u64V_get l (n - 1) (by omega))
  rw [addr_add0] at this
  rw [this, lastI_pos (by omega), hn]

set_option maxHeartbeats 400000 in
theorem last_any (B X : Nat) (vg : Value) (go : List Int) (w : World) (h7 : w.cell? ⟨X, 7, none⟩ = some vg) (hr : w.ownsRow B 35 1 vg go.length (u64V go)) (hn : go.length ≤ 100000) :
    Calls Try.prog 18 #[.pointer (some ⟨X, 0, none⟩)] w fun e w' => e = .returned (.int .u64 (lastI go)) ∧ ∃ n, w' = w.drewN n := by
  by_cases h0 : go.length = 0
  · obtain ⟨A, cap, rfl, _⟩ := own_slice hr
    rw [lastI_zero h0]
    rw [h0] at h7
    clear hr h0
    go_enter Try.func18, Try.ntmps18
    go_wp2_with fail
    go_ret
    exact ⟨rfl, 0, rfl⟩
  · obtain ⟨g, cap, rfl, _, hc⟩ := row_last hr rfl (by omega)
    have hne : ((go.length : Int) == 0) = false := by rw [beq_eq_false_iff_ne]; omega
    generalize lastI go = z at hc
    clear hr
    go_enter Try.func18, Try.ntmps18
    go_wp2_with fail
    go_quiet (fail)
    go_wp2_with fail
    go_ret
    exact ⟨rfl, _, rfl⟩

theorem runX_mk {B p cb fb X : Nat} {lv vp vi vg vl : Value} {s : BS} {F : Fd} {xc : Array Value} {pu it go : List Int} {la : List Bool} {P : Option (Nat × Pd)} {R : Option (Nat × Rd)} {w0 w : World} (h : RunW B p cb fb X lv vp vi vg vl s F xc pu it go la P R w0 w) {x : Xs} (pb rb : Nat)
    (h1 : x.s = s) (h2 : x.f = F) (h3 : xc = xCells fb (ptrO pb x.P) (ptrO rb x.R) vp vi vg vl x) (h4 : x.pushed = pu) (h5 : x.items = it) (h6 : x.got = go) (h7 : x.lags = la) (h8 : P = x.P.map (fun q => (pb, q))) (h9 : R = x.R.map (fun r => (rb, r))) : RunX B p cb fb X x w0 w := by
  subst h1 h2 h3 h4 h5 h6 h7 h8 h9
  exact ⟨lv, vp, vi, vg, vl, pb, rb, h⟩
theorem u64V_snoc (l : List Int) (y : Int) : u64V (l ++ [y]) = u64V l ++ [.int .u64 y] := by simp [u64V]


set_option maxRecDepth 100000 in
set_option maxHeartbeats 2000000 in
theorem produce_iv (B p cb fb X : Nat) (x : Xs) (m H T a : Nat) (k : Int) (w0 w : World) (q : Pd) (hI : Inv x m H T a) (hm : m ≤ 1000) (hP : x.P = some q) (hX : RunX B p cb fb X x w0 w) (h29 : q.ph ≠ 29) (h31 : q.ph ≠ 31) (hz : (pstep x.s x.f q).2.1 ≠ 0) :
    Calls Try.prog 15 #[.pointer (some ⟨X, 0, none⟩), .int .u64 k] w fun e w' => e = .returned (.bool true) ∧ RunX B p cb fb X (x.stP q) w0 w' := by
  obtain ⟨T', hI', hfl, hsx⟩ := inv_stP hI hm hP
  have hq := hI.prod q hP
  have hlp := hI.lastp hP
  have hlP := hI.lastP
  have hlg := hI.lg
  have hsn : x.steps ≤ 5 := by omega
  have hn6 := hI.n1
  have hitl : x.items.length ≤ 2000 := by rw [hI.il]; have := hI.HT; omega
  have hpul : x.pushed.length ≤ 2000 := by have := hI.pm; omega
  have hpu1 : 1 ≤ x.pushed.length := by have := hI.plen hP; omega
  have hend : x.ended ≤ 2000 := by have := hI.plen hP; omega
  obtain ⟨lv, vp, vi, vg, vl, pb, rb, hR⟩ := hX
  rw [hP] at hR
  obtain ⟨s1, nx, l1, ho⟩ : ∃ s1 nx l1, pstep x.s x.f q = (s1, nx, l1) := ⟨_, _, _, rfl⟩
  have hph := hq.ph
  have hqt := hq.t
  have hqp := hq.p
  have HiH : Hid (cHead s1 (x.f.psh (nx != 0)) = (H : Nat)) := hid (by have := hI'.hH; simp only [Xs.stP, ho] at this; exact this)
  have HiT : Hid (cTail s1 (x.f.psh (nx != 0)) = (T' : Nat)) := hid (by have := hI'.hT; simp only [Xs.stP, ho] at this; exact this)
  have HiL : Hid (H ≤ T' ∧ T' ≤ 1000000) := hid (by have := hI'.HT; omega)
  obtain ⟨fl, hflen⟩ : ∃ fl : Nat, flen s1 (x.f.psh (nx != 0)) = fl := ⟨_, rfl⟩
  rw [ho] at hfl
  have hfl' : fl ≤ x.f.n := by rw [← hflen]; exact hfl
  have HiF := hid hflen
  have hnx := hz
  rw [ho] at hnx
  simp only at hnx
  clear hfl hflen hI' hq hI
  obtain ⟨Ap, cp, rfl, _⟩ := own_slice hR.rp
  obtain ⟨Ai, ci, rfl, _⟩ := own_slice hR.ri
  obtain ⟨S, hS⟩ : ∃ S : Nat → Prop, ∀ k, S k ↔ k = X := ⟨_, fun _ => Iff.rfl⟩
  have hSp : Mix.Has S X := (hS _).2 rfl
  have HS := hid hS
  clear hS
  have hb6 : decide ((x.steps : Int) + 1 ≤ 6) = true := by simp; omega
  have hbN1 : decide ((fl : Int) ≤ (x.f.n : Int)) = true := by simp; omega
  have hbN2 : decide (fl ≤ x.f.n) = true := by simp; omega
  have x0 : w.cell? ⟨X, 0, none⟩ = some (.pointer (some ⟨fb, 0, none⟩)) := hR.x.cell 0
  have gx0 := hR.x.free 0
  have x1 : w.cell? ⟨X, 1, none⟩ = some (.pointer (some ⟨pb, 0, none⟩)) := hR.x.cell 1
  have gx1 := hR.x.free 1
  have x3 : w.cell? ⟨X, 3, none⟩ = some (.int .i64 x.f.n) := hR.x.cell 3
  have gx3 := hR.x.free 3
  have x4 : w.cell? ⟨X, 4, none⟩ = some (.slice Ap x.pushed.length cp) := hR.x.cell 4
  have gx4 := hR.x.free 4
  have x5 : w.cell? ⟨X, 5, none⟩ = some (.slice Ai x.items.length ci) := hR.x.cell 5
  have gx5 := hR.x.free 5
  have x6 : w.cell? ⟨X, 6, none⟩ = some (.int .i64 x.ended) := hR.x.cell 6
  have gx6 := hR.x.free 6
  have x9 : w.cell? ⟨X, 9, none⟩ = some (.int .i64 x.steps) := hR.x.cell 9
  have gx9 := hR.x.free 9
  have x11 : w.cell? ⟨X, 11, none⟩ = some (.bool x.full) := hR.x.cell 11
  have gx11 := hR.x.free 11
  have x18 : w.cell? ⟨X, 18, none⟩ = some (.bool true) := hR.x.cell 18
  have gx18 := hR.x.free 18
  have hb29 : (q.ph == 29) = false := by rw [beq_eq_false_iff_ne]; exact h29
  have hb31 : (q.ph == 31) = false := by rw [beq_eq_false_iff_ne]; exact h31
  have hbn : (nx == 0) = false := by rw [beq_eq_false_iff_ne]; exact hnx
  have HR := hid hR
  have Hph := hid hph
  have Hqt := hid hqt
  have Hqp := hid hqp
  have Ho := hid ho
  have HP := hid hP
  have Hlp := hid hlp
  clear hR hph hqt hqp ho hP hlp
  go_enter Try.func15, Try.ntmps15
  go_wp2_with fail
  refine (pstep_any B p cb fb pb lv x.s x.f q w HR.out.fm (HR.out.pp pb q rfl).1 ⟨by rw [Hqt.out]; decide, by rw [Hqt.out]; decide⟩ (by omega) HR.out.bz ⟨by rw [Hqp.out]; omega, by rw [Hqp.out]; omega⟩ Hph.out).mono ?_
  rw [Ho.out]
  rintro e w1 ⟨rfl, lv1, hf1, hq1, hc1, hy1⟩
  have hR1 := HR.out.pushed rfl hf1 hq1 hc1
  clear hf1 hq1 hc1 hy1
  clear x0 gx0 x1 gx1 x3 gx3 x4 gx4 x5 gx5 x6 gx6 x9 gx9 x11 gx11 x18 gx18
  have x0 : w1.cell? ⟨X, 0, none⟩ = some (.pointer (some ⟨fb, 0, none⟩)) := hR1.x.cell 0
  have gx0 := hR1.x.free 0
  have x1 : w1.cell? ⟨X, 1, none⟩ = some (.pointer (some ⟨pb, 0, none⟩)) := hR1.x.cell 1
  have gx1 := hR1.x.free 1
  have x3 : w1.cell? ⟨X, 3, none⟩ = some (.int .i64 x.f.n) := hR1.x.cell 3
  have gx3 := hR1.x.free 3
  have x4 : w1.cell? ⟨X, 4, none⟩ = some (.slice Ap x.pushed.length cp) := hR1.x.cell 4
  have gx4 := hR1.x.free 4
  have x5 : w1.cell? ⟨X, 5, none⟩ = some (.slice Ai x.items.length ci) := hR1.x.cell 5
  have gx5 := hR1.x.free 5
  have x6 : w1.cell? ⟨X, 6, none⟩ = some (.int .i64 x.ended) := hR1.x.cell 6
  have gx6 := hR1.x.free 6
  have x9 : w1.cell? ⟨X, 9, none⟩ = some (.int .i64 x.steps) := hR1.x.cell 9
  have gx9 := hR1.x.free 9
  have x11 : w1.cell? ⟨X, 11, none⟩ = some (.bool x.full) := hR1.x.cell 11
  have gx11 := hR1.x.free 11
  have x18 : w1.cell? ⟨X, 18, none⟩ = some (.bool true) := hR1.x.cell 18
  have gx18 := hR1.x.free 18
  have HR1 := hid hR1
  clear hR1
  go_wp2_with fail
  refine Mix.wp_region_mix (fun _ => True) (fun i => ([0, 0, 0, 0, 0, 0, 0, 0, 0, 0, 0, 0, 0, 0, 0] : List Nat).getD i 0) [0, 1, 2, 3, 4, 5, 6, 7, 8, 9, 10, 11, 12, 13, 14] (by kernel_rfl) (by kernel_rfl) ?_
  refine Mix.mix_world fun w2 hw2 => ?_
  have hR2 := HR1.out.put 9 (.int .i64 ((x.steps : Int) + 1))
  rw [← hw2] at hR2
  clear x0 gx0 x1 gx1 x3 gx3 x4 gx4 x5 gx5 x6 gx6 x9 gx9 x11 gx11 x18 gx18
  clear hw2
  have x0 : w2.cell? ⟨X, 0, none⟩ = some (.pointer (some ⟨fb, 0, none⟩)) := hR2.x.cell 0
  have gx0 := hR2.x.free 0
  have x1 : w2.cell? ⟨X, 1, none⟩ = some (.pointer (some ⟨pb, 0, none⟩)) := hR2.x.cell 1
  have gx1 := hR2.x.free 1
  have x3 : w2.cell? ⟨X, 3, none⟩ = some (.int .i64 x.f.n) := hR2.x.cell 3
  have gx3 := hR2.x.free 3
  have x4 : w2.cell? ⟨X, 4, none⟩ = some (.slice Ap x.pushed.length cp) := hR2.x.cell 4
  have gx4 := hR2.x.free 4
  have x5 : w2.cell? ⟨X, 5, none⟩ = some (.slice Ai x.items.length ci) := hR2.x.cell 5
  have gx5 := hR2.x.free 5
  have x6 : w2.cell? ⟨X, 6, none⟩ = some (.int .i64 x.ended) := hR2.x.cell 6
  have gx6 := hR2.x.free 6
  have x9 : w2.cell? ⟨X, 9, none⟩ = some (.int .i64 ((x.steps : Int) + 1)) := hR2.x.cell 9
  have gx9 := hR2.x.free 9
  have x11 : w2.cell? ⟨X, 11, none⟩ = some (.bool x.full) := hR2.x.cell 11
  have gx11 := hR2.x.free 11
  have x18 : w2.cell? ⟨X, 18, none⟩ = some (.bool true) := hR2.x.cell 18
  have gx18 := hR2.x.free 18
  have HR2 := hid hR2
  clear hR2
  repeat (first | (refine Mix.mix_q (by simp only [List.getElem?_toArray, List.getElem?_cons_zero, List.getElem?_cons_succ]; exact rfl) rfl ?_; go_big_quiet_step (fail); refine wpQuiet_nil ?_) | (refine Mix.mix_p (by simp only [List.getElem?_toArray, List.getElem?_cons_zero, List.getElem?_cons_succ]; exact rfl) rfl rfl ?_; go_big_quiet_step (fail); refine wpQuiet_nil ?_))
  intro n2
  go_wp2_with fail
  refine Mix.wp_region_mix S (fun i => ([1, 0, 0, 0, 0, 0, 0, 0, 0, 0, 0, 0, 0, 0, 0, 0, 0, 3, 0, 1, 1, 1, 4, 0, 0, 0, 0, 2] : List Nat).getD i 0) [0, 1, 2, 3, 4, 5, 6, 7, 8, 9, 10, 11, 12, 13, 14, 15, 16, 19, 20, 21, 22, 17, 18, 23, 24, 25, 26, 27] (by kernel_rfl) (by kernel_rfl) ?_
  refine Mix.mix_world fun w3 hw3 => ?_
  have hR3 := HR2.out.drewN n2
  rw [← hw3] at hR3
  clear x0 gx0 x1 gx1 x3 gx3 x4 gx4 x5 gx5 x6 gx6 x9 gx9 x11 gx11 x18 gx18
  clear hw3
  have x0 : w3.cell? ⟨X, 0, none⟩ = some (.pointer (some ⟨fb, 0, none⟩)) := hR3.x.cell 0
  have gx0 := hR3.x.free 0
  have x1 : w3.cell? ⟨X, 1, none⟩ = some (.pointer (some ⟨pb, 0, none⟩)) := hR3.x.cell 1
  have gx1 := hR3.x.free 1
  have x3 : w3.cell? ⟨X, 3, none⟩ = some (.int .i64 x.f.n) := hR3.x.cell 3
  have gx3 := hR3.x.free 3
  have x4 : w3.cell? ⟨X, 4, none⟩ = some (.slice Ap x.pushed.length cp) := hR3.x.cell 4
  have gx4 := hR3.x.free 4
  have x5 : w3.cell? ⟨X, 5, none⟩ = some (.slice Ai x.items.length ci) := hR3.x.cell 5
  have gx5 := hR3.x.free 5
  have x6 : w3.cell? ⟨X, 6, none⟩ = some (.int .i64 x.ended) := hR3.x.cell 6
  have gx6 := hR3.x.free 6
  have x9 : w3.cell? ⟨X, 9, none⟩ = some (.int .i64 ((x.steps : Int) + 1)) := hR3.x.cell 9
  have gx9 := hR3.x.free 9
  have x11 : w3.cell? ⟨X, 11, none⟩ = some (.bool x.full) := hR3.x.cell 11
  have gx11 := hR3.x.free 11
  have x18 : w3.cell? ⟨X, 18, none⟩ = some (.bool true) := hR3.x.cell 18
  have gx18 := hR3.x.free 18
  have HR3 := hid hR3
  clear hR3
  repeat (first | (refine Mix.mix_q (by simp only [List.getElem?_toArray, List.getElem?_cons_zero, List.getElem?_cons_succ]; exact rfl) rfl ?_; go_big_quiet_step (fail); refine wpQuiet_nil ?_) | (refine Mix.mix_p (by simp only [List.getElem?_toArray, List.getElem?_cons_zero, List.getElem?_cons_succ]; exact rfl) rfl rfl ?_; go_big_quiet_step (fail); refine wpQuiet_nil ?_) | (refine Mix.mix_s (by simp only [List.getElem?_toArray, List.getElem?_cons_zero, List.getElem?_cons_succ]; exact rfl) rfl rfl ?_; go_big_quiet_step (fail); refine wpQuiet_nil ?_))
  refine Mix.mix_a (by simp only [List.getElem?_toArray, List.getElem?_cons_zero, List.getElem?_cons_succ]; exact rfl) rfl fun W4 hW4 => ?_
  obtain ⟨n4, rfl⟩ := hW4
  go_wp2_with fail
  refine (flist_any B p cb fb _ s1 _ _ (HR3.out.drewN n4).fm H T' HiH.out HiT.out HiL.out.1 HiL.out.2).mono ?_
  rintro e w4 ⟨v4, rfl, hrow4, hc4⟩
  rw [flist_length, HiF.out] at hrow4
  obtain ⟨a4, c4, rfl, _⟩ := own_slice hrow4
  have hc4' : Ch (fun _ => False) w3 w4 := hc4.ofDrewN
  have hkeep : Mix.Keep S w3 w4 := fun j hj => hc4'.block j (by rw [(HS.out j).1 hj]; exact HR3.out.x.lt) id
  have hR4 := HR3.out.keep hc4'
  clear x0 gx0 x1 gx1 x3 gx3 x4 gx4 x5 gx5 x6 gx6 x9 gx9 x11 gx11 x18 gx18
  have x0 : w4.cell? ⟨X, 0, none⟩ = some (.pointer (some ⟨fb, 0, none⟩)) := hR4.x.cell 0
  have gx0 := hR4.x.free 0
  have x1 : w4.cell? ⟨X, 1, none⟩ = some (.pointer (some ⟨pb, 0, none⟩)) := hR4.x.cell 1
  have gx1 := hR4.x.free 1
  have x3 : w4.cell? ⟨X, 3, none⟩ = some (.int .i64 x.f.n) := hR4.x.cell 3
  have gx3 := hR4.x.free 3
  have x4 : w4.cell? ⟨X, 4, none⟩ = some (.slice Ap x.pushed.length cp) := hR4.x.cell 4
  have gx4 := hR4.x.free 4
  have x5 : w4.cell? ⟨X, 5, none⟩ = some (.slice Ai x.items.length ci) := hR4.x.cell 5
  have gx5 := hR4.x.free 5
  have x6 : w4.cell? ⟨X, 6, none⟩ = some (.int .i64 x.ended) := hR4.x.cell 6
  have gx6 := hR4.x.free 6
  have x9 : w4.cell? ⟨X, 9, none⟩ = some (.int .i64 ((x.steps : Int) + 1)) := hR4.x.cell 9
  have gx9 := hR4.x.free 9
  have x11 : w4.cell? ⟨X, 11, none⟩ = some (.bool x.full) := hR4.x.cell 11
  have gx11 := hR4.x.free 11
  have x18 : w4.cell? ⟨X, 18, none⟩ = some (.bool true) := hR4.x.cell 18
  have gx18 := hR4.x.free 18
  have HR4 := hid hR4
  clear hR4 hc4 hc4' hrow4
  go_wp2_with fail
  refine ⟨hkeep, ?_⟩
  clear hkeep
  repeat (first | (refine Mix.mix_q (by simp only [List.getElem?_toArray, List.getElem?_cons_zero, List.getElem?_cons_succ]; exact rfl) rfl ?_; go_big_quiet_step (fail); refine wpQuiet_nil ?_) | (refine Mix.mix_p (by simp only [List.getElem?_toArray, List.getElem?_cons_zero, List.getElem?_cons_succ]; exact rfl) rfl rfl ?_; go_big_quiet_step (fail); refine wpQuiet_nil ?_) | (refine Mix.mix_s (by simp only [List.getElem?_toArray, List.getElem?_cons_zero, List.getElem?_cons_succ]; exact rfl) rfl rfl ?_; go_big_quiet_step (fail); refine wpQuiet_nil ?_))
  refine Mix.mix_e (by simp only [List.getElem?_toArray, List.getElem?_cons_zero, List.getElem?_cons_succ]; exact rfl) rfl fun W5 hW5 => ?_
  obtain ⟨n5, rfl⟩ := hW5
  go_wp2_with fail
  intro n6
  go_wp2_with fail
  go_ret
  refine ⟨rfl, ?_⟩
  have hE : x.stP q = { x with s := s1, f := x.f.psh (nx != 0), steps := x.steps + 1, P := some (q.next (s1, nx, l1)), full := x.full, items := x.items, ended := x.ended } := by
    unfold Xs.stP
    rw [Ho.out]
    simp only [hnx, h29, h31, decide_false, Bool.false_and, Bool.or_false, if_false]
  rw [hE]
  exact runX_mk (((HR4.out.drewN n5).put 18 (.bool true)).drewN n6) pb rb rfl rfl rfl rfl rfl rfl rfl (by rfl) rfl

set_option maxRecDepth 100000 in
set_option maxHeartbeats 2000000 in
theorem produce_iii (B p cb fb X : Nat) (x : Xs) (m H T a : Nat) (k : Int) (w0 w : World) (q : Pd) (hI : Inv x m H T a) (hm : m ≤ 1000) (hP : x.P = some q) (hX : RunX B p cb fb X x w0 w) (h29 : q.ph ≠ 29) (h31 : q.ph ≠ 31) (hz : (pstep x.s x.f q).2.1 = 0) :
    Calls Try.prog 15 #[.pointer (some ⟨X, 0, none⟩), .int .u64 k] w fun e w' => e = .returned (.bool true) ∧ RunX B p cb fb X (x.stP q) w0 w' := by
  obtain ⟨T', hI', hfl, hsx⟩ := inv_stP hI hm hP
  have hq := hI.prod q hP
  have hlp := hI.lastp hP
  have hlP := hI.lastP
  have hlg := hI.lg
  have hsn : x.steps ≤ 5 := by omega
  have hn6 := hI.n1
  have hitl : x.items.length ≤ 2000 := by rw [hI.il]; have := hI.HT; omega
  have hpul : x.pushed.length ≤ 2000 := by have := hI.pm; omega
  have hpu1 : 1 ≤ x.pushed.length := by have := hI.plen hP; omega
  have hend : x.ended ≤ 2000 := by have := hI.plen hP; omega
  obtain ⟨lv, vp, vi, vg, vl, pb, rb, hR⟩ := hX
  rw [hP] at hR
  obtain ⟨s1, nx, l1, ho⟩ : ∃ s1 nx l1, pstep x.s x.f q = (s1, nx, l1) := ⟨_, _, _, rfl⟩
  have hph := hq.ph
  have hqt := hq.t
  have hqp := hq.p
  have HiH : Hid (cHead s1 (x.f.psh (nx != 0)) = (H : Nat)) := hid (by have := hI'.hH; simp only [Xs.stP, ho] at this; exact this)
  have HiT : Hid (cTail s1 (x.f.psh (nx != 0)) = (T' : Nat)) := hid (by have := hI'.hT; simp only [Xs.stP, ho] at this; exact this)
  have HiL : Hid (H ≤ T' ∧ T' ≤ 1000000) := hid (by have := hI'.HT; omega)
  obtain ⟨fl, hflen⟩ : ∃ fl : Nat, flen s1 (x.f.psh (nx != 0)) = fl := ⟨_, rfl⟩
  rw [ho] at hfl
  have hfl' : fl ≤ x.f.n := by rw [← hflen]; exact hfl
  have HiF := hid hflen
  have hnx := hz
  rw [ho] at hnx
  simp only at hnx
  clear hfl hflen hI' hq hI
  obtain ⟨Ap, cp, rfl, _⟩ := own_slice hR.rp
  obtain ⟨Ai, ci, rfl, _⟩ := own_slice hR.ri
  obtain ⟨S, hS⟩ : ∃ S : Nat → Prop, ∀ k, S k ↔ k = X := ⟨_, fun _ => Iff.rfl⟩
  have hSp : Mix.Has S X := (hS _).2 rfl
  have HS := hid hS
  clear hS
  have hb6 : decide ((x.steps : Int) + 1 ≤ 6) = true := by simp; omega
  have hbN1 : decide ((fl : Int) ≤ (x.f.n : Int)) = true := by simp; omega
  have hbN2 : decide (fl ≤ x.f.n) = true := by simp; omega
  have x0 : w.cell? ⟨X, 0, none⟩ = some (.pointer (some ⟨fb, 0, none⟩)) := hR.x.cell 0
  have gx0 := hR.x.free 0
  have x1 : w.cell? ⟨X, 1, none⟩ = some (.pointer (some ⟨pb, 0, none⟩)) := hR.x.cell 1
  have gx1 := hR.x.free 1
  have x3 : w.cell? ⟨X, 3, none⟩ = some (.int .i64 x.f.n) := hR.x.cell 3
  have gx3 := hR.x.free 3
  have x4 : w.cell? ⟨X, 4, none⟩ = some (.slice Ap x.pushed.length cp) := hR.x.cell 4
  have gx4 := hR.x.free 4
  have x5 : w.cell? ⟨X, 5, none⟩ = some (.slice Ai x.items.length ci) := hR.x.cell 5
  have gx5 := hR.x.free 5
  have x6 : w.cell? ⟨X, 6, none⟩ = some (.int .i64 x.ended) := hR.x.cell 6
  have gx6 := hR.x.free 6
  have x9 : w.cell? ⟨X, 9, none⟩ = some (.int .i64 x.steps) := hR.x.cell 9
  have gx9 := hR.x.free 9
  have x11 : w.cell? ⟨X, 11, none⟩ = some (.bool x.full) := hR.x.cell 11
  have gx11 := hR.x.free 11
  have x18 : w.cell? ⟨X, 18, none⟩ = some (.bool true) := hR.x.cell 18
  have gx18 := hR.x.free 18
  have hb29 : (q.ph == 29) = false := by rw [beq_eq_false_iff_ne]; exact h29
  have hb31 : (q.ph == 31) = false := by rw [beq_eq_false_iff_ne]; exact h31
  have hbn : (nx == 0) = true := by rw [beq_iff_eq]; exact hnx
  have HR := hid hR
  have Hph := hid hph
  have Hqt := hid hqt
  have Hqp := hid hqp
  have Ho := hid ho
  have HP := hid hP
  have Hlp := hid hlp
  clear hR hph hqt hqp ho hP hlp
  go_enter Try.func15, Try.ntmps15
  go_wp2_with fail
  refine (pstep_any B p cb fb pb lv x.s x.f q w HR.out.fm (HR.out.pp pb q rfl).1 ⟨by rw [Hqt.out]; decide, by rw [Hqt.out]; decide⟩ (by omega) HR.out.bz ⟨by rw [Hqp.out]; omega, by rw [Hqp.out]; omega⟩ Hph.out).mono ?_
  rw [Ho.out]
  rintro e w1 ⟨rfl, lv1, hf1, hq1, hc1, hy1⟩
  have hR1 := HR.out.pushed rfl hf1 hq1 hc1
  clear hf1 hq1 hc1 hy1
  clear x0 gx0 x1 gx1 x3 gx3 x4 gx4 x5 gx5 x6 gx6 x9 gx9 x11 gx11 x18 gx18
  have x0 : w1.cell? ⟨X, 0, none⟩ = some (.pointer (some ⟨fb, 0, none⟩)) := hR1.x.cell 0
  have gx0 := hR1.x.free 0
  have x1 : w1.cell? ⟨X, 1, none⟩ = some (.pointer (some ⟨pb, 0, none⟩)) := hR1.x.cell 1
  have gx1 := hR1.x.free 1
  have x3 : w1.cell? ⟨X, 3, none⟩ = some (.int .i64 x.f.n) := hR1.x.cell 3
  have gx3 := hR1.x.free 3
  have x4 : w1.cell? ⟨X, 4, none⟩ = some (.slice Ap x.pushed.length cp) := hR1.x.cell 4
  have gx4 := hR1.x.free 4
  have x5 : w1.cell? ⟨X, 5, none⟩ = some (.slice Ai x.items.length ci) := hR1.x.cell 5
  have gx5 := hR1.x.free 5
  have x6 : w1.cell? ⟨X, 6, none⟩ = some (.int .i64 x.ended) := hR1.x.cell 6
  have gx6 := hR1.x.free 6
  have x9 : w1.cell? ⟨X, 9, none⟩ = some (.int .i64 x.steps) := hR1.x.cell 9
  have gx9 := hR1.x.free 9
  have x11 : w1.cell? ⟨X, 11, none⟩ = some (.bool x.full) := hR1.x.cell 11
  have gx11 := hR1.x.free 11
  have x18 : w1.cell? ⟨X, 18, none⟩ = some (.bool true) := hR1.x.cell 18
  have gx18 := hR1.x.free 18
  have HR1 := hid hR1
  clear hR1
  go_wp2_with fail
  refine Mix.wp_region_mix (fun _ => True) (fun i => ([0, 0, 0, 0, 0, 0, 0, 0, 0, 0, 0, 0, 0, 0, 0] : List Nat).getD i 0) [0, 1, 2, 3, 4, 5, 6, 7, 8, 9, 10, 11, 12, 13, 14] (by kernel_rfl) (by kernel_rfl) ?_
  refine Mix.mix_world fun w2 hw2 => ?_
  have hR2 := HR1.out.put 9 (.int .i64 ((x.steps : Int) + 1))
  rw [← hw2] at hR2
  clear x0 gx0 x1 gx1 x3 gx3 x4 gx4 x5 gx5 x6 gx6 x9 gx9 x11 gx11 x18 gx18
  clear hw2
  have x0 : w2.cell? ⟨X, 0, none⟩ = some (.pointer (some ⟨fb, 0, none⟩)) := hR2.x.cell 0
  have gx0 := hR2.x.free 0
  have x1 : w2.cell? ⟨X, 1, none⟩ = some (.pointer (some ⟨pb, 0, none⟩)) := hR2.x.cell 1
  have gx1 := hR2.x.free 1
  have x3 : w2.cell? ⟨X, 3, none⟩ = some (.int .i64 x.f.n) := hR2.x.cell 3
  have gx3 := hR2.x.free 3
  have x4 : w2.cell? ⟨X, 4, none⟩ = some (.slice Ap x.pushed.length cp) := hR2.x.cell 4
  have gx4 := hR2.x.free 4
  have x5 : w2.cell? ⟨X, 5, none⟩ = some (.slice Ai x.items.length ci) := hR2.x.cell 5
  have gx5 := hR2.x.free 5
  have x6 : w2.cell? ⟨X, 6, none⟩ = some (.int .i64 x.ended) := hR2.x.cell 6
  have gx6 := hR2.x.free 6
  have x9 : w2.cell? ⟨X, 9, none⟩ = some (.int .i64 ((x.steps : Int) + 1)) := hR2.x.cell 9
  have gx9 := hR2.x.free 9
  have x11 : w2.cell? ⟨X, 11, none⟩ = some (.bool x.full) := hR2.x.cell 11
  have gx11 := hR2.x.free 11
  have x18 : w2.cell? ⟨X, 18, none⟩ = some (.bool true) := hR2.x.cell 18
  have gx18 := hR2.x.free 18
  have HR2 := hid hR2
  clear hR2
  repeat (first | (refine Mix.mix_q (by simp only [List.getElem?_toArray, List.getElem?_cons_zero, List.getElem?_cons_succ]; exact rfl) rfl ?_; go_big_quiet_step (fail); refine wpQuiet_nil ?_) | (refine Mix.mix_p (by simp only [List.getElem?_toArray, List.getElem?_cons_zero, List.getElem?_cons_succ]; exact rfl) rfl rfl ?_; go_big_quiet_step (fail); refine wpQuiet_nil ?_))
  intro n2
  go_wp2_with fail
  refine Mix.wp_region_mix S (fun i => ([1, 0, 0, 0, 0, 0, 0, 0, 0, 0, 0, 0, 0, 0, 0, 0, 0, 3, 0, 1, 1, 1, 4, 0, 0, 0, 0, 2] : List Nat).getD i 0) [0, 1, 2, 3, 4, 5, 6, 7, 8, 9, 10, 11, 12, 13, 14, 15, 16, 19, 20, 21, 22, 17, 18, 23, 24, 25, 26, 27] (by kernel_rfl) (by kernel_rfl) ?_
  refine Mix.mix_world fun w3 hw3 => ?_
  have hR3 := (((HR2.out.drewN n2).put 6 (.int .i64 ((x.ended : Int) + 1))).put 1 (.pointer none)).noP
  rw [← hw3] at hR3
  clear x0 gx0 x1 gx1 x3 gx3 x4 gx4 x5 gx5 x6 gx6 x9 gx9 x11 gx11 x18 gx18
  clear hw3
  have x0 : w3.cell? ⟨X, 0, none⟩ = some (.pointer (some ⟨fb, 0, none⟩)) := hR3.x.cell 0
  have gx0 := hR3.x.free 0
  have x1 : w3.cell? ⟨X, 1, none⟩ = some (.pointer none) := hR3.x.cell 1
  have gx1 := hR3.x.free 1
  have x3 : w3.cell? ⟨X, 3, none⟩ = some (.int .i64 x.f.n) := hR3.x.cell 3
  have gx3 := hR3.x.free 3
  have x4 : w3.cell? ⟨X, 4, none⟩ = some (.slice Ap x.pushed.length cp) := hR3.x.cell 4
  have gx4 := hR3.x.free 4
  have x5 : w3.cell? ⟨X, 5, none⟩ = some (.slice Ai x.items.length ci) := hR3.x.cell 5
  have gx5 := hR3.x.free 5
  have x6 : w3.cell? ⟨X, 6, none⟩ = some (.int .i64 ((x.ended : Int) + 1)) := hR3.x.cell 6
  have gx6 := hR3.x.free 6
  have x9 : w3.cell? ⟨X, 9, none⟩ = some (.int .i64 ((x.steps : Int) + 1)) := hR3.x.cell 9
  have gx9 := hR3.x.free 9
  have x11 : w3.cell? ⟨X, 11, none⟩ = some (.bool x.full) := hR3.x.cell 11
  have gx11 := hR3.x.free 11
  have x18 : w3.cell? ⟨X, 18, none⟩ = some (.bool true) := hR3.x.cell 18
  have gx18 := hR3.x.free 18
  have HR3 := hid hR3
  clear hR3
  repeat (first | (refine Mix.mix_q (by simp only [List.getElem?_toArray, List.getElem?_cons_zero, List.getElem?_cons_succ]; exact rfl) rfl ?_; go_big_quiet_step (fail); refine wpQuiet_nil ?_) | (refine Mix.mix_p (by simp only [List.getElem?_toArray, List.getElem?_cons_zero, List.getElem?_cons_succ]; exact rfl) rfl rfl ?_; go_big_quiet_step (fail); refine wpQuiet_nil ?_) | (refine Mix.mix_s (by simp only [List.getElem?_toArray, List.getElem?_cons_zero, List.getElem?_cons_succ]; exact rfl) rfl rfl ?_; go_big_quiet_step (fail); refine wpQuiet_nil ?_))
  refine Mix.mix_a (by simp only [List.getElem?_toArray, List.getElem?_cons_zero, List.getElem?_cons_succ]; exact rfl) rfl fun W4 hW4 => ?_
  obtain ⟨n4, rfl⟩ := hW4
  go_wp2_with fail
  refine (flist_any B p cb fb _ s1 _ _ (HR3.out.drewN n4).fm H T' HiH.out HiT.out HiL.out.1 HiL.out.2).mono ?_
  rintro e w4 ⟨v4, rfl, hrow4, hc4⟩
  rw [flist_length, HiF.out] at hrow4
  obtain ⟨a4, c4, rfl, _⟩ := own_slice hrow4
  have hc4' : Ch (fun _ => False) w3 w4 := hc4.ofDrewN
  have hkeep : Mix.Keep S w3 w4 := fun j hj => hc4'.block j (by rw [(HS.out j).1 hj]; exact HR3.out.x.lt) id
  have hR4 := HR3.out.keep hc4'
  clear x0 gx0 x1 gx1 x3 gx3 x4 gx4 x5 gx5 x6 gx6 x9 gx9 x11 gx11 x18 gx18
  have x0 : w4.cell? ⟨X, 0, none⟩ = some (.pointer (some ⟨fb, 0, none⟩)) := hR4.x.cell 0
  have gx0 := hR4.x.free 0
  have x1 : w4.cell? ⟨X, 1, none⟩ = some (.pointer none) := hR4.x.cell 1
  have gx1 := hR4.x.free 1
  have x3 : w4.cell? ⟨X, 3, none⟩ = some (.int .i64 x.f.n) := hR4.x.cell 3
  have gx3 := hR4.x.free 3
  have x4 : w4.cell? ⟨X, 4, none⟩ = some (.slice Ap x.pushed.length cp) := hR4.x.cell 4
  have gx4 := hR4.x.free 4
  have x5 : w4.cell? ⟨X, 5, none⟩ = some (.slice Ai x.items.length ci) := hR4.x.cell 5
  have gx5 := hR4.x.free 5
  have x6 : w4.cell? ⟨X, 6, none⟩ = some (.int .i64 ((x.ended : Int) + 1)) := hR4.x.cell 6
  have gx6 := hR4.x.free 6
  have x9 : w4.cell? ⟨X, 9, none⟩ = some (.int .i64 ((x.steps : Int) + 1)) := hR4.x.cell 9
  have gx9 := hR4.x.free 9
  have x11 : w4.cell? ⟨X, 11, none⟩ = some (.bool x.full) := hR4.x.cell 11
  have gx11 := hR4.x.free 11
  have x18 : w4.cell? ⟨X, 18, none⟩ = some (.bool true) := hR4.x.cell 18
  have gx18 := hR4.x.free 18
  have HR4 := hid hR4
  clear hR4 hc4 hc4' hrow4
  go_wp2_with fail
  refine ⟨hkeep, ?_⟩
  clear hkeep
  repeat (first | (refine Mix.mix_q (by simp only [List.getElem?_toArray, List.getElem?_cons_zero, List.getElem?_cons_succ]; exact rfl) rfl ?_; go_big_quiet_step (fail); refine wpQuiet_nil ?_) | (refine Mix.mix_p (by simp only [List.getElem?_toArray, List.getElem?_cons_zero, List.getElem?_cons_succ]; exact rfl) rfl rfl ?_; go_big_quiet_step (fail); refine wpQuiet_nil ?_) | (refine Mix.mix_s (by simp only [List.getElem?_toArray, List.getElem?_cons_zero, List.getElem?_cons_succ]; exact rfl) rfl rfl ?_; go_big_quiet_step (fail); refine wpQuiet_nil ?_))
  refine Mix.mix_e (by simp only [List.getElem?_toArray, List.getElem?_cons_zero, List.getElem?_cons_succ]; exact rfl) rfl fun W5 hW5 => ?_
  obtain ⟨n5, rfl⟩ := hW5
  go_wp2_with fail
  intro n6
  go_wp2_with fail
  go_ret
  refine ⟨rfl, ?_⟩
  have hE : x.stP q = { x with s := s1, f := x.f.psh (nx != 0), steps := x.steps + 1, P := none, full := x.full, items := x.items, ended := x.ended + 1 } := by
    unfold Xs.stP
    rw [Ho.out]
    simp only [hnx, h29, h31, decide_false, Bool.false_and, Bool.or_false, if_false, if_true]
  rw [hE]
  exact runX_mk (((HR4.out.drewN n5).put 18 (.bool true)).drewN n6) pb rb rfl rfl rfl rfl rfl rfl rfl (by rfl) rfl

set_option maxRecDepth 100000 in
set_option maxHeartbeats 2000000 in
theorem produce_ii (B p cb fb X : Nat) (x : Xs) (m H T a : Nat) (k : Int) (w0 w : World) (q : Pd) (hI : Inv x m H T a) (hm : m ≤ 1000) (hP : x.P = some q) (hX : RunX B p cb fb X x w0 w) (h31 : q.ph = 31) :
    Calls Try.prog 15 #[.pointer (some ⟨X, 0, none⟩), .int .u64 k] w fun e w' => e = .returned (.bool true) ∧ RunX B p cb fb X (x.stP q) w0 w' := by
  obtain ⟨T', hI', hfl, hsx⟩ := inv_stP hI hm hP
  have hq := hI.prod q hP
  have hlp := hI.lastp hP
  have hlP := hI.lastP
  have hlg := hI.lg
  have hsn : x.steps ≤ 5 := by omega
  have hn6 := hI.n1
  have hitl : x.items.length ≤ 2000 := by rw [hI.il]; have := hI.HT; omega
  have hpul : x.pushed.length ≤ 2000 := by have := hI.pm; omega
  have hpu1 : 1 ≤ x.pushed.length := by have := hI.plen hP; omega
  have hend : x.ended ≤ 2000 := by have := hI.plen hP; omega
  obtain ⟨lv, vp, vi, vg, vl, pb, rb, hR⟩ := hX
  rw [hP] at hR
  obtain ⟨s1, nx, l1, ho⟩ : ∃ s1 nx l1, pstep x.s x.f q = (s1, nx, l1) := ⟨_, _, _, rfl⟩
  have hph := hq.ph
  have hqt := hq.t
  have hqp := hq.p
  have HiH : Hid (cHead s1 (x.f.psh (nx != 0)) = (H : Nat)) := hid (by have := hI'.hH; simp only [Xs.stP, ho] at this; exact this)
  have HiT : Hid (cTail s1 (x.f.psh (nx != 0)) = (T' : Nat)) := hid (by have := hI'.hT; simp only [Xs.stP, ho] at this; exact this)
  have HiL : Hid (H ≤ T' ∧ T' ≤ 1000000) := hid (by have := hI'.HT; omega)
  obtain ⟨fl, hflen⟩ : ∃ fl : Nat, flen s1 (x.f.psh (nx != 0)) = fl := ⟨_, rfl⟩
  rw [ho] at hfl
  have hfl' : fl ≤ x.f.n := by rw [← hflen]; exact hfl
  have HiF := hid hflen
  have hnx : nx = 0 := by
    have : (pstep x.s x.f q).2.1 = 0 := by unfold pstep; rw [if_neg (by rw [h31]; decide), if_neg (by rw [h31]; decide), if_neg (by rw [h31]; decide), if_neg (by rw [h31]; decide), if_neg (by rw [h31]; decide), if_pos h31]
    rw [ho] at this
    exact this
  obtain ⟨i0, hi, hz0, hz1, hz2⟩ := info_parts Try.infoU64
  clear hfl hflen hI' hq hI
  obtain ⟨Ap, cp, rfl, _⟩ := own_slice hR.rp
  obtain ⟨Ai, ci, rfl, _⟩ := own_slice hR.ri
  obtain ⟨S, hS⟩ : ∃ S : Nat → Prop, ∀ k, S k ↔ k = X := ⟨_, fun _ => Iff.rfl⟩
  have hSp : Mix.Has S X := (hS _).2 rfl
  have HS := hid hS
  clear hS
  have hb6 : decide ((x.steps : Int) + 1 ≤ 6) = true := by simp; omega
  have hbN1 : decide ((fl : Int) ≤ (x.f.n : Int)) = true := by simp; omega
  have hbN2 : decide (fl ≤ x.f.n) = true := by simp; omega
  have x0 : w.cell? ⟨X, 0, none⟩ = some (.pointer (some ⟨fb, 0, none⟩)) := hR.x.cell 0
  have gx0 := hR.x.free 0
  have x1 : w.cell? ⟨X, 1, none⟩ = some (.pointer (some ⟨pb, 0, none⟩)) := hR.x.cell 1
  have gx1 := hR.x.free 1
  have x3 : w.cell? ⟨X, 3, none⟩ = some (.int .i64 x.f.n) := hR.x.cell 3
  have gx3 := hR.x.free 3
  have x4 : w.cell? ⟨X, 4, none⟩ = some (.slice Ap x.pushed.length cp) := hR.x.cell 4
  have gx4 := hR.x.free 4
  have x5 : w.cell? ⟨X, 5, none⟩ = some (.slice Ai x.items.length ci) := hR.x.cell 5
  have gx5 := hR.x.free 5
  have x6 : w.cell? ⟨X, 6, none⟩ = some (.int .i64 x.ended) := hR.x.cell 6
  have gx6 := hR.x.free 6
  have x9 : w.cell? ⟨X, 9, none⟩ = some (.int .i64 x.steps) := hR.x.cell 9
  have gx9 := hR.x.free 9
  have x11 : w.cell? ⟨X, 11, none⟩ = some (.bool x.full) := hR.x.cell 11
  have gx11 := hR.x.free 11
  have x18 : w.cell? ⟨X, 18, none⟩ = some (.bool true) := hR.x.cell 18
  have gx18 := hR.x.free 18
  have hb29 : (q.ph == 29) = false := by rw [beq_eq_false_iff_ne, h31]; decide
  have hb31 : (q.ph == 31) = true := by rw [beq_iff_eq]; exact h31
  have hbn : (nx == 0) = true := by rw [beq_iff_eq]; exact hnx
  have HR := hid hR
  have Hph := hid hph
  have Hqt := hid hqt
  have Hqp := hid hqp
  have Ho := hid ho
  have HP := hid hP
  have Hlp := hid hlp
  clear hR hph hqt hqp ho hP hlp
  go_enter Try.func15, Try.ntmps15
  go_wp2_with fail
  refine (pstep_any B p cb fb pb lv x.s x.f q w HR.out.fm (HR.out.pp pb q rfl).1 ⟨by rw [Hqt.out]; decide, by rw [Hqt.out]; decide⟩ (by omega) HR.out.bz ⟨by rw [Hqp.out]; omega, by rw [Hqp.out]; omega⟩ Hph.out).mono ?_
  rw [Ho.out]
  rintro e w1 ⟨rfl, lv1, hf1, hq1, hc1, hy1⟩
  have hR1 := HR.out.pushed rfl hf1 hq1 hc1
  clear hf1 hq1 hc1 hy1
  clear x0 gx0 x1 gx1 x3 gx3 x4 gx4 x5 gx5 x6 gx6 x9 gx9 x11 gx11 x18 gx18
  have x0 : w1.cell? ⟨X, 0, none⟩ = some (.pointer (some ⟨fb, 0, none⟩)) := hR1.x.cell 0
  have gx0 := hR1.x.free 0
  have x1 : w1.cell? ⟨X, 1, none⟩ = some (.pointer (some ⟨pb, 0, none⟩)) := hR1.x.cell 1
  have gx1 := hR1.x.free 1
  have x3 : w1.cell? ⟨X, 3, none⟩ = some (.int .i64 x.f.n) := hR1.x.cell 3
  have gx3 := hR1.x.free 3
  have x4 : w1.cell? ⟨X, 4, none⟩ = some (.slice Ap x.pushed.length cp) := hR1.x.cell 4
  have gx4 := hR1.x.free 4
  have x5 : w1.cell? ⟨X, 5, none⟩ = some (.slice Ai x.items.length ci) := hR1.x.cell 5
  have gx5 := hR1.x.free 5
  have x6 : w1.cell? ⟨X, 6, none⟩ = some (.int .i64 x.ended) := hR1.x.cell 6
  have gx6 := hR1.x.free 6
  have x9 : w1.cell? ⟨X, 9, none⟩ = some (.int .i64 x.steps) := hR1.x.cell 9
  have gx9 := hR1.x.free 9
  have x11 : w1.cell? ⟨X, 11, none⟩ = some (.bool x.full) := hR1.x.cell 11
  have gx11 := hR1.x.free 11
  have x18 : w1.cell? ⟨X, 18, none⟩ = some (.bool true) := hR1.x.cell 18
  have gx18 := hR1.x.free 18
  have HR1 := hid hR1
  clear hR1
  go_wp2_with fail
  refine Mix.wp_region_mix (fun _ => True) (fun i => ([0, 0, 0, 0, 0, 0, 0, 0, 0, 0, 0, 0, 0, 0, 0] : List Nat).getD i 0) [0, 1, 2, 3, 4, 5, 6, 7, 8, 9, 10, 11, 12, 13, 14] (by kernel_rfl) (by kernel_rfl) ?_
  refine Mix.mix_world fun w2 hw2 => ?_
  have hR2 := HR1.out.put 9 (.int .i64 ((x.steps : Int) + 1))
  rw [← hw2] at hR2
  clear x0 gx0 x1 gx1 x3 gx3 x4 gx4 x5 gx5 x6 gx6 x9 gx9 x11 gx11 x18 gx18
  clear hw2
  have x0 : w2.cell? ⟨X, 0, none⟩ = some (.pointer (some ⟨fb, 0, none⟩)) := hR2.x.cell 0
  have gx0 := hR2.x.free 0
  have x1 : w2.cell? ⟨X, 1, none⟩ = some (.pointer (some ⟨pb, 0, none⟩)) := hR2.x.cell 1
  have gx1 := hR2.x.free 1
  have x3 : w2.cell? ⟨X, 3, none⟩ = some (.int .i64 x.f.n) := hR2.x.cell 3
  have gx3 := hR2.x.free 3
  have x4 : w2.cell? ⟨X, 4, none⟩ = some (.slice Ap x.pushed.length cp) := hR2.x.cell 4
  have gx4 := hR2.x.free 4
  have x5 : w2.cell? ⟨X, 5, none⟩ = some (.slice Ai x.items.length ci) := hR2.x.cell 5
  have gx5 := hR2.x.free 5
  have x6 : w2.cell? ⟨X, 6, none⟩ = some (.int .i64 x.ended) := hR2.x.cell 6
  have gx6 := hR2.x.free 6
  have x9 : w2.cell? ⟨X, 9, none⟩ = some (.int .i64 ((x.steps : Int) + 1)) := hR2.x.cell 9
  have gx9 := hR2.x.free 9
  have x11 : w2.cell? ⟨X, 11, none⟩ = some (.bool x.full) := hR2.x.cell 11
  have gx11 := hR2.x.free 11
  have x18 : w2.cell? ⟨X, 18, none⟩ = some (.bool true) := hR2.x.cell 18
  have gx18 := hR2.x.free 18
  have HR2 := hid hR2
  clear hR2
  repeat (first | (refine Mix.mix_q (by simp only [List.getElem?_toArray, List.getElem?_cons_zero, List.getElem?_cons_succ]; exact rfl) rfl ?_; go_big_quiet_step (fail); refine wpQuiet_nil ?_) | (refine Mix.mix_p (by simp only [List.getElem?_toArray, List.getElem?_cons_zero, List.getElem?_cons_succ]; exact rfl) rfl rfl ?_; go_big_quiet_step (fail); refine wpQuiet_nil ?_))
  intro n2
  go_wp2_with fail
  refine Mix.wp_region_mix S (fun i => ([1, 1, 1, 1, 4, 0, 0, 0, 0, 0, 0, 0, 0, 0, 0, 0, 0, 3, 2, 0, 0, 2] : List Nat).getD i 0) [0, 1, 2, 3, 4, 5, 6, 7, 8, 9, 10, 11, 12, 13, 14, 15, 16, 17, 18, 19, 20, 21] (by kernel_rfl) (by kernel_rfl) ?_
  refine Mix.mix_world fun w5 hw5 => ?_
  have hR5 := HR2.out.drewN n2
  rw [← hw5] at hR5
  obtain ⟨gp, cp2, hvp, _, hcl⟩ := row_last hR5.rp rfl hpu1
  injection hvp with e1 e2 e3
  subst e1 e3
  clear x0 gx0 x1 gx1 x3 gx3 x4 gx4 x5 gx5 x6 gx6 x9 gx9 x11 gx11 x18 gx18
  clear hw5 e2
  have x0 : w5.cell? ⟨X, 0, none⟩ = some (.pointer (some ⟨fb, 0, none⟩)) := hR5.x.cell 0
  have gx0 := hR5.x.free 0
  have x1 : w5.cell? ⟨X, 1, none⟩ = some (.pointer (some ⟨pb, 0, none⟩)) := hR5.x.cell 1
  have gx1 := hR5.x.free 1
  have x3 : w5.cell? ⟨X, 3, none⟩ = some (.int .i64 x.f.n) := hR5.x.cell 3
  have gx3 := hR5.x.free 3
  have x4 : w5.cell? ⟨X, 4, none⟩ = some (.slice (some ⟨gp, 0, none⟩) x.pushed.length cp) := hR5.x.cell 4
  have gx4 := hR5.x.free 4
  have x5 : w5.cell? ⟨X, 5, none⟩ = some (.slice Ai x.items.length ci) := hR5.x.cell 5
  have gx5 := hR5.x.free 5
  have x6 : w5.cell? ⟨X, 6, none⟩ = some (.int .i64 x.ended) := hR5.x.cell 6
  have gx6 := hR5.x.free 6
  have x9 : w5.cell? ⟨X, 9, none⟩ = some (.int .i64 ((x.steps : Int) + 1)) := hR5.x.cell 9
  have gx9 := hR5.x.free 9
  have x11 : w5.cell? ⟨X, 11, none⟩ = some (.bool x.full) := hR5.x.cell 11
  have gx11 := hR5.x.free 11
  have x18 : w5.cell? ⟨X, 18, none⟩ = some (.bool true) := hR5.x.cell 18
  have gx18 := hR5.x.free 18
  have HR5 := hid hR5
  clear hR5
  repeat (first | (refine Mix.mix_q (by simp only [List.getElem?_toArray, List.getElem?_cons_zero, List.getElem?_cons_succ]; exact rfl) rfl ?_; go_big_quiet_step (fail); refine wpQuiet_nil ?_) | (refine Mix.mix_p (by simp only [List.getElem?_toArray, List.getElem?_cons_zero, List.getElem?_cons_succ]; exact rfl) rfl rfl ?_; go_big_quiet_step (fail); refine wpQuiet_nil ?_) | (refine Mix.mix_s (by simp only [List.getElem?_toArray, List.getElem?_cons_zero, List.getElem?_cons_succ]; exact rfl) rfl rfl ?_; go_big_quiet_step (fail); refine wpQuiet_nil ?_))
  refine Mix.mix_a (by simp only [List.getElem?_toArray, List.getElem?_cons_zero, List.getElem?_cons_succ]; exact rfl) rfl fun W6 hW6 => ?_
  obtain ⟨n5, rfl⟩ := hW6
  go_wp2_with fail
  refine ⟨fun j hj => Below.heap_alloc _ _ j (by rw [(HS.out j).1 hj]; exact HR5.out.x.lt), Mix.mix_world fun w6 hw6 => ?_⟩
  have c6 : Ch (fun _ => False) w5 w6 := by rw [hw6]; exact ((Ch.refl _ w5).drewN n5).alloc _
  have t6 : Blk w6 w5.heap.size 35 #[.int .u64 (lastI x.pushed)] := by rw [hw6]; exact Blk.new (w5.drewN n5) _ _
  have hR6 := HR5.out.keep c6
  have hz6 : B ≤ w6.heap.size := hR6.bz
  clear x0 gx0 x1 gx1 x3 gx3 x4 gx4 x5 gx5 x6 gx6 x9 gx9 x11 gx11 x18 gx18
  clear hw6 c6 hcl
  refine Mix.mix_e (by simp only [List.getElem?_toArray, List.getElem?_cons_zero, List.getElem?_cons_succ]; exact rfl) rfl fun W7 hW7 => ?_
  obtain ⟨n7, rfl⟩ := hW7
  refine wpList_app _ rfl _ _ 30 rfl B 35 i0 _ 1 8 Try.underlying30 hi hz0 hz1 hz2 rfl (by decide) _ _ _ rfl (hR6.drewN n7).ri ⟨w5.heap.size, 0, none⟩ 1 1 [.int .u64 (lastI x.pushed)] rfl rfl ?c1 ?c2 (by decide) ?c3 ?c4 ?c5 ?_
  case c1 => intro j' u hu; rw [addr_add0]; exact ((t6.drewN n7).cell j').trans (by simpa using hu)
  case c2 => intro u hu; simp at hu; subst hu; rfl
  case c3 => unfold maxLen; omega
  case c4 => omega
  case c5 => exact hz6
  intro v' w7 hown7 hgrow7 hfresh7
  have hR7 := (hR6.drewN n7).appI (y := lastI x.pushed) (by rw [u64V_snoc, List.length_append]; exact hown7) hgrow7 hfresh7
  obtain ⟨gi, ci2, rfl, _, _, _, _⟩ := own_form hown7 (by omega)
  have HR7 := hid hR7
  clear hR7 hown7 hgrow7 hfresh7 t6 hR6 hz6
  have hX7 := HR7.out.x
  have x0 : w7.cell? ⟨X, 0, none⟩ = some (.pointer (some ⟨fb, 0, none⟩)) := hX7.cell 0
  have x5 : w7.cell? ⟨X, 5, none⟩ = some (.slice Ai x.items.length ci) := hX7.cell 5
  have gx5 := hX7.free 5
  clear hX7
  go_wp2_with fail
  repeat (first | (refine Mix.mix_q (by simp only [List.getElem?_toArray, List.getElem?_cons_zero, List.getElem?_cons_succ]; exact rfl) rfl ?_; go_big_quiet_step (fail); refine wpQuiet_nil ?_) | (refine Mix.mix_p (by simp only [List.getElem?_toArray, List.getElem?_cons_zero, List.getElem?_cons_succ]; exact rfl) rfl rfl ?_; go_big_quiet_step (fail); refine wpQuiet_nil ?_) | (refine Mix.mix_s (by simp only [List.getElem?_toArray, List.getElem?_cons_zero, List.getElem?_cons_succ]; exact rfl) rfl rfl ?_; go_big_quiet_step (fail); refine wpQuiet_nil ?_))
  refine Mix.mix_e (by simp only [List.getElem?_toArray, List.getElem?_cons_zero, List.getElem?_cons_succ]; exact rfl) rfl fun W8 hW8 => ?_
  obtain ⟨n8, rfl⟩ := hW8
  go_wp2_with fail
  refine Mix.mix_world fun w8 hw8 => ?_
  have hR8 := (HR7.out.drewN n8).put 5 (.slice (some ⟨gi, 0, none⟩) (x.items.length + 1) ci2)
  rw [← hw8] at hR8
  clear hw8 x0 x5 gx5
  have x0 : w8.cell? ⟨X, 0, none⟩ = some (.pointer (some ⟨fb, 0, none⟩)) := hR8.x.cell 0
  have gx0 := hR8.x.free 0
  have x1 : w8.cell? ⟨X, 1, none⟩ = some (.pointer (some ⟨pb, 0, none⟩)) := hR8.x.cell 1
  have gx1 := hR8.x.free 1
  have x3 : w8.cell? ⟨X, 3, none⟩ = some (.int .i64 x.f.n) := hR8.x.cell 3
  have gx3 := hR8.x.free 3
  have x4 : w8.cell? ⟨X, 4, none⟩ = some (.slice (some ⟨gp, 0, none⟩) x.pushed.length cp) := hR8.x.cell 4
  have gx4 := hR8.x.free 4
  have x5 : w8.cell? ⟨X, 5, none⟩ = some (.slice (some ⟨gi, 0, none⟩) (x.items.length + 1) ci2) := hR8.x.cell 5
  have gx5 := hR8.x.free 5
  have x6 : w8.cell? ⟨X, 6, none⟩ = some (.int .i64 x.ended) := hR8.x.cell 6
  have gx6 := hR8.x.free 6
  have x9 : w8.cell? ⟨X, 9, none⟩ = some (.int .i64 ((x.steps : Int) + 1)) := hR8.x.cell 9
  have gx9 := hR8.x.free 9
  have x11 : w8.cell? ⟨X, 11, none⟩ = some (.bool x.full) := hR8.x.cell 11
  have gx11 := hR8.x.free 11
  have x18 : w8.cell? ⟨X, 18, none⟩ = some (.bool true) := hR8.x.cell 18
  have gx18 := hR8.x.free 18
  have HR8 := hid hR8
  clear hR8
  intro n9
  go_wp2_with fail
  refine Mix.wp_region_mix S (fun i => ([1, 0, 0, 0, 0, 0, 0, 0, 0, 0, 0, 0, 0, 0, 0, 0, 0, 3, 0, 1, 1, 1, 4, 0, 0, 0, 0, 2] : List Nat).getD i 0) [0, 1, 2, 3, 4, 5, 6, 7, 8, 9, 10, 11, 12, 13, 14, 15, 16, 19, 20, 21, 22, 17, 18, 23, 24, 25, 26, 27] (by kernel_rfl) (by kernel_rfl) ?_
  refine Mix.mix_world fun w3 hw3 => ?_
  have hR3 := (((HR8.out.drewN n9).put 6 (.int .i64 ((x.ended : Int) + 1))).put 1 (.pointer none)).noP
  rw [← hw3] at hR3
  clear x0 gx0 x1 gx1 x3 gx3 x4 gx4 x5 gx5 x6 gx6 x9 gx9 x11 gx11 x18 gx18
  clear hw3
  have x0 : w3.cell? ⟨X, 0, none⟩ = some (.pointer (some ⟨fb, 0, none⟩)) := hR3.x.cell 0
  have gx0 := hR3.x.free 0
  have x1 : w3.cell? ⟨X, 1, none⟩ = some (.pointer none) := hR3.x.cell 1
  have gx1 := hR3.x.free 1
  have x3 : w3.cell? ⟨X, 3, none⟩ = some (.int .i64 x.f.n) := hR3.x.cell 3
  have gx3 := hR3.x.free 3
  have x4 : w3.cell? ⟨X, 4, none⟩ = some (.slice (some ⟨gp, 0, none⟩) x.pushed.length cp) := hR3.x.cell 4
  have gx4 := hR3.x.free 4
  have x5 : w3.cell? ⟨X, 5, none⟩ = some (.slice (some ⟨gi, 0, none⟩) (x.items.length + 1) ci2) := hR3.x.cell 5
  have gx5 := hR3.x.free 5
  have x6 : w3.cell? ⟨X, 6, none⟩ = some (.int .i64 ((x.ended : Int) + 1)) := hR3.x.cell 6
  have gx6 := hR3.x.free 6
  have x9 : w3.cell? ⟨X, 9, none⟩ = some (.int .i64 ((x.steps : Int) + 1)) := hR3.x.cell 9
  have gx9 := hR3.x.free 9
  have x11 : w3.cell? ⟨X, 11, none⟩ = some (.bool x.full) := hR3.x.cell 11
  have gx11 := hR3.x.free 11
  have x18 : w3.cell? ⟨X, 18, none⟩ = some (.bool true) := hR3.x.cell 18
  have gx18 := hR3.x.free 18
  have HR3 := hid hR3
  clear hR3
  repeat (first | (refine Mix.mix_q (by simp only [List.getElem?_toArray, List.getElem?_cons_zero, List.getElem?_cons_succ]; exact rfl) rfl ?_; go_big_quiet_step (fail); refine wpQuiet_nil ?_) | (refine Mix.mix_p (by simp only [List.getElem?_toArray, List.getElem?_cons_zero, List.getElem?_cons_succ]; exact rfl) rfl rfl ?_; go_big_quiet_step (fail); refine wpQuiet_nil ?_) | (refine Mix.mix_s (by simp only [List.getElem?_toArray, List.getElem?_cons_zero, List.getElem?_cons_succ]; exact rfl) rfl rfl ?_; go_big_quiet_step (fail); refine wpQuiet_nil ?_))
  refine Mix.mix_a (by simp only [List.getElem?_toArray, List.getElem?_cons_zero, List.getElem?_cons_succ]; exact rfl) rfl fun W4 hW4 => ?_
  obtain ⟨n4, rfl⟩ := hW4
  go_wp2_with fail
  refine (flist_any B p cb fb _ s1 _ _ (HR3.out.drewN n4).fm H T' HiH.out HiT.out HiL.out.1 HiL.out.2).mono ?_
  rintro e w4 ⟨v4, rfl, hrow4, hc4⟩
  rw [flist_length, HiF.out] at hrow4
  obtain ⟨a4, c4, rfl, _⟩ := own_slice hrow4
  have hc4' : Ch (fun _ => False) w3 w4 := hc4.ofDrewN
  have hkeep : Mix.Keep S w3 w4 := fun j hj => hc4'.block j (by rw [(HS.out j).1 hj]; exact HR3.out.x.lt) id
  have hR4 := HR3.out.keep hc4'
  clear x0 gx0 x1 gx1 x3 gx3 x4 gx4 x5 gx5 x6 gx6 x9 gx9 x11 gx11 x18 gx18
  have x0 : w4.cell? ⟨X, 0, none⟩ = some (.pointer (some ⟨fb, 0, none⟩)) := hR4.x.cell 0
  have gx0 := hR4.x.free 0
  have x1 : w4.cell? ⟨X, 1, none⟩ = some (.pointer none) := hR4.x.cell 1
  have gx1 := hR4.x.free 1
  have x3 : w4.cell? ⟨X, 3, none⟩ = some (.int .i64 x.f.n) := hR4.x.cell 3
  have gx3 := hR4.x.free 3
  have x4 : w4.cell? ⟨X, 4, none⟩ = some (.slice (some ⟨gp, 0, none⟩) x.pushed.length cp) := hR4.x.cell 4
  have gx4 := hR4.x.free 4
  have x5 : w4.cell? ⟨X, 5, none⟩ = some (.slice (some ⟨gi, 0, none⟩) (x.items.length + 1) ci2) := hR4.x.cell 5
  have gx5 := hR4.x.free 5
  have x6 : w4.cell? ⟨X, 6, none⟩ = some (.int .i64 ((x.ended : Int) + 1)) := hR4.x.cell 6
  have gx6 := hR4.x.free 6
  have x9 : w4.cell? ⟨X, 9, none⟩ = some (.int .i64 ((x.steps : Int) + 1)) := hR4.x.cell 9
  have gx9 := hR4.x.free 9
  have x11 : w4.cell? ⟨X, 11, none⟩ = some (.bool x.full) := hR4.x.cell 11
  have gx11 := hR4.x.free 11
  have x18 : w4.cell? ⟨X, 18, none⟩ = some (.bool true) := hR4.x.cell 18
  have gx18 := hR4.x.free 18
  have HR4 := hid hR4
  clear hR4 hc4 hc4' hrow4
  go_wp2_with fail
  refine ⟨hkeep, ?_⟩
  clear hkeep
  repeat (first | (refine Mix.mix_q (by simp only [List.getElem?_toArray, List.getElem?_cons_zero, List.getElem?_cons_succ]; exact rfl) rfl ?_; go_big_quiet_step (fail); refine wpQuiet_nil ?_) | (refine Mix.mix_p (by simp only [List.getElem?_toArray, List.getElem?_cons_zero, List.getElem?_cons_succ]; exact rfl) rfl rfl ?_; go_big_quiet_step (fail); refine wpQuiet_nil ?_) | (refine Mix.mix_s (by simp only [List.getElem?_toArray, List.getElem?_cons_zero, List.getElem?_cons_succ]; exact rfl) rfl rfl ?_; go_big_quiet_step (fail); refine wpQuiet_nil ?_))
  refine Mix.mix_e (by simp only [List.getElem?_toArray, List.getElem?_cons_zero, List.getElem?_cons_succ]; exact rfl) rfl fun W5 hW5 => ?_
  obtain ⟨n5, rfl⟩ := hW5
  go_wp2_with fail
  intro n6
  go_wp2_with fail
  go_ret
  refine ⟨rfl, ?_⟩
  have hE : x.stP q = { x with s := s1, f := x.f.psh (nx != 0), steps := x.steps + 1, P := none, full := x.full, items := x.items ++ [lastI x.pushed], ended := x.ended + 1 } := by
    unfold Xs.stP
    rw [Ho.out]
    simp only [hnx, h31, if_true, show decide ((31 : Int) = 29) = false from rfl, Bool.false_and, Bool.or_false]
  rw [hE]
  exact runX_mk (((HR4.out.drewN n5).put 18 (.bool true)).drewN n6) pb rb rfl rfl rfl rfl rfl rfl rfl (by rfl) rfl

set_option maxRecDepth 100000 in
set_option maxHeartbeats 2000000 in
theorem produce_ia (B p cb fb X : Nat) (x : Xs) (m H T a : Nat) (k : Int) (w0 w : World) (q : Pd) (hI : Inv x m H T a) (hm : m ≤ 1000) (hP : x.P = some q) (hX : RunX B p cb fb X x w0 w) (h29 : q.ph = 29) (hge0 : x.f.n ≤ flen (pstep x.s x.f q).1 x.f) :
    Calls Try.prog 15 #[.pointer (some ⟨X, 0, none⟩), .int .u64 k] w fun e w' => e = .returned (.bool true) ∧ RunX B p cb fb X (x.stP q) w0 w' := by
  obtain ⟨T', hI', hfl, hsx⟩ := inv_stP hI hm hP
  have hq := hI.prod q hP
  have hlp := hI.lastp hP
  have hlP := hI.lastP
  have hlg := hI.lg
  have hsn : x.steps ≤ 5 := by omega
  have hn6 := hI.n1
  have hitl : x.items.length ≤ 2000 := by rw [hI.il]; have := hI.HT; omega
  have hpul : x.pushed.length ≤ 2000 := by have := hI.pm; omega
  have hpu1 : 1 ≤ x.pushed.length := by have := hI.plen hP; omega
  have hend : x.ended ≤ 2000 := by have := hI.plen hP; omega
  obtain ⟨lv, vp, vi, vg, vl, pb, rb, hR⟩ := hX
  rw [hP] at hR
  obtain ⟨s1, nx, l1, ho⟩ : ∃ s1 nx l1, pstep x.s x.f q = (s1, nx, l1) := ⟨_, _, _, rfl⟩
  have hph := hq.ph
  have hqt := hq.t
  have hqp := hq.p
  have HiH : Hid (cHead s1 (x.f.psh (nx != 0)) = (H : Nat)) := hid (by have := hI'.hH; simp only [Xs.stP, ho] at this; exact this)
  have HiT : Hid (cTail s1 (x.f.psh (nx != 0)) = (T' : Nat)) := hid (by have := hI'.hT; simp only [Xs.stP, ho] at this; exact this)
  have HiL : Hid (H ≤ T' ∧ T' ≤ 1000000) := hid (by have := hI'.HT; omega)
  obtain ⟨fl, hflen⟩ : ∃ fl : Nat, flen s1 (x.f.psh (nx != 0)) = fl := ⟨_, rfl⟩
  rw [ho] at hfl
  have hfl' : fl ≤ x.f.n := by rw [← hflen]; exact hfl
  have HiF := hid hflen
  have hnx : nx ≠ 0 := by
    have : (pstep x.s x.f q).2.1 ≠ 0 := by
      unfold pstep; rw [if_neg (by rw [h29]; decide), if_neg (by rw [h29]; decide), if_neg (by rw [h29]; decide), if_pos h29]
      show (if _ then (30 : Int) else 32) ≠ 0
      split <;> decide
    rw [ho] at this
    exact this
  have hflx : flen s1 x.f = fl := hflen
  have Hflx := hid hflx
  clear hflx
  have hge : x.f.n ≤ flen (pstep x.s x.f q).1 x.f := hge0
  rw [ho] at hge
  have hge1 : x.f.n ≤ fl := by rw [← hflen]; exact hge
  clear hge hge0
  clear hfl hflen hI' hq hI
  obtain ⟨Ap, cp, rfl, _⟩ := own_slice hR.rp
  obtain ⟨Ai, ci, rfl, _⟩ := own_slice hR.ri
  obtain ⟨S, hS⟩ : ∃ S : Nat → Prop, ∀ k, S k ↔ k = X := ⟨_, fun _ => Iff.rfl⟩
  have hSp : Mix.Has S X := (hS _).2 rfl
  have HS := hid hS
  clear hS
  have hb6 : decide ((x.steps : Int) + 1 ≤ 6) = true := by simp; omega
  have hbN1 : decide ((fl : Int) ≤ (x.f.n : Int)) = true := by simp; omega
  have hbN2 : decide (fl ≤ x.f.n) = true := by simp; omega
  have x0 : w.cell? ⟨X, 0, none⟩ = some (.pointer (some ⟨fb, 0, none⟩)) := hR.x.cell 0
  have gx0 := hR.x.free 0
  have x1 : w.cell? ⟨X, 1, none⟩ = some (.pointer (some ⟨pb, 0, none⟩)) := hR.x.cell 1
  have gx1 := hR.x.free 1
  have x3 : w.cell? ⟨X, 3, none⟩ = some (.int .i64 x.f.n) := hR.x.cell 3
  have gx3 := hR.x.free 3
  have x4 : w.cell? ⟨X, 4, none⟩ = some (.slice Ap x.pushed.length cp) := hR.x.cell 4
  have gx4 := hR.x.free 4
  have x5 : w.cell? ⟨X, 5, none⟩ = some (.slice Ai x.items.length ci) := hR.x.cell 5
  have gx5 := hR.x.free 5
  have x6 : w.cell? ⟨X, 6, none⟩ = some (.int .i64 x.ended) := hR.x.cell 6
  have gx6 := hR.x.free 6
  have x9 : w.cell? ⟨X, 9, none⟩ = some (.int .i64 x.steps) := hR.x.cell 9
  have gx9 := hR.x.free 9
  have x11 : w.cell? ⟨X, 11, none⟩ = some (.bool x.full) := hR.x.cell 11
  have gx11 := hR.x.free 11
  have x18 : w.cell? ⟨X, 18, none⟩ = some (.bool true) := hR.x.cell 18
  have gx18 := hR.x.free 18
  have hb29 : (q.ph == 29) = true := by rw [beq_iff_eq]; exact h29
  have hb31 : (q.ph == 31) = false := by rw [beq_eq_false_iff_ne, h29]; decide
  have hbn : (nx == 0) = false := by rw [beq_eq_false_iff_ne]; exact hnx
  have hg1 : decide ((x.f.n : Int) ≤ (fl : Int)) = true := by simp; omega
  have hg2 : decide (x.f.n ≤ fl) = true := by simp; omega
  have HR := hid hR
  have Hph := hid hph
  have Hqt := hid hqt
  have Hqp := hid hqp
  have Ho := hid ho
  have HP := hid hP
  have Hlp := hid hlp
  clear hR hph hqt hqp ho hP hlp
  go_enter Try.func15, Try.ntmps15
  go_wp2_with fail
  refine (pstep_any B p cb fb pb lv x.s x.f q w HR.out.fm (HR.out.pp pb q rfl).1 ⟨by rw [Hqt.out]; decide, by rw [Hqt.out]; decide⟩ (by omega) HR.out.bz ⟨by rw [Hqp.out]; omega, by rw [Hqp.out]; omega⟩ Hph.out).mono ?_
  rw [Ho.out]
  rintro e w1 ⟨rfl, lv1, hf1, hq1, hc1, hy1⟩
  have hR1 := HR.out.pushed rfl hf1 hq1 hc1
  clear hf1 hq1 hc1 hy1
  clear x0 gx0 x1 gx1 x3 gx3 x4 gx4 x5 gx5 x6 gx6 x9 gx9 x11 gx11 x18 gx18
  have x0 : w1.cell? ⟨X, 0, none⟩ = some (.pointer (some ⟨fb, 0, none⟩)) := hR1.x.cell 0
  have gx0 := hR1.x.free 0
  have x1 : w1.cell? ⟨X, 1, none⟩ = some (.pointer (some ⟨pb, 0, none⟩)) := hR1.x.cell 1
  have gx1 := hR1.x.free 1
  have x3 : w1.cell? ⟨X, 3, none⟩ = some (.int .i64 x.f.n) := hR1.x.cell 3
  have gx3 := hR1.x.free 3
  have x4 : w1.cell? ⟨X, 4, none⟩ = some (.slice Ap x.pushed.length cp) := hR1.x.cell 4
  have gx4 := hR1.x.free 4
  have x5 : w1.cell? ⟨X, 5, none⟩ = some (.slice Ai x.items.length ci) := hR1.x.cell 5
  have gx5 := hR1.x.free 5
  have x6 : w1.cell? ⟨X, 6, none⟩ = some (.int .i64 x.ended) := hR1.x.cell 6
  have gx6 := hR1.x.free 6
  have x9 : w1.cell? ⟨X, 9, none⟩ = some (.int .i64 x.steps) := hR1.x.cell 9
  have gx9 := hR1.x.free 9
  have x11 : w1.cell? ⟨X, 11, none⟩ = some (.bool x.full) := hR1.x.cell 11
  have gx11 := hR1.x.free 11
  have x18 : w1.cell? ⟨X, 18, none⟩ = some (.bool true) := hR1.x.cell 18
  have gx18 := hR1.x.free 18
  have HR1 := hid hR1
  clear hR1
  go_wp2_with fail
  refine Mix.wp_region_mix S (fun i => ([0, 0, 0, 0, 0, 0, 0, 3, 0, 1, 1, 1, 4, 0, 0] : List Nat).getD i 0) [0, 1, 2, 3, 4, 5, 6, 9, 10, 11, 12, 7, 8, 13, 14] (by kernel_rfl) (by kernel_rfl) ?_
  refine Mix.mix_world fun w2 hw2 => ?_
  have hR2 := HR1.out.put 9 (.int .i64 ((x.steps : Int) + 1))
  rw [← hw2] at hR2
  clear x0 gx0 x1 gx1 x3 gx3 x4 gx4 x5 gx5 x6 gx6 x9 gx9 x11 gx11 x18 gx18
  clear hw2
  have x0 : w2.cell? ⟨X, 0, none⟩ = some (.pointer (some ⟨fb, 0, none⟩)) := hR2.x.cell 0
  have gx0 := hR2.x.free 0
  have x1 : w2.cell? ⟨X, 1, none⟩ = some (.pointer (some ⟨pb, 0, none⟩)) := hR2.x.cell 1
  have gx1 := hR2.x.free 1
  have x3 : w2.cell? ⟨X, 3, none⟩ = some (.int .i64 x.f.n) := hR2.x.cell 3
  have gx3 := hR2.x.free 3
  have x4 : w2.cell? ⟨X, 4, none⟩ = some (.slice Ap x.pushed.length cp) := hR2.x.cell 4
  have gx4 := hR2.x.free 4
  have x5 : w2.cell? ⟨X, 5, none⟩ = some (.slice Ai x.items.length ci) := hR2.x.cell 5
  have gx5 := hR2.x.free 5
  have x6 : w2.cell? ⟨X, 6, none⟩ = some (.int .i64 x.ended) := hR2.x.cell 6
  have gx6 := hR2.x.free 6
  have x9 : w2.cell? ⟨X, 9, none⟩ = some (.int .i64 ((x.steps : Int) + 1)) := hR2.x.cell 9
  have gx9 := hR2.x.free 9
  have x11 : w2.cell? ⟨X, 11, none⟩ = some (.bool x.full) := hR2.x.cell 11
  have gx11 := hR2.x.free 11
  have x18 : w2.cell? ⟨X, 18, none⟩ = some (.bool true) := hR2.x.cell 18
  have gx18 := hR2.x.free 18
  have HR2 := hid hR2
  clear hR2
  repeat (first | (refine Mix.mix_q (by simp only [List.getElem?_toArray, List.getElem?_cons_zero, List.getElem?_cons_succ]; exact rfl) rfl ?_; go_big_quiet_step (fail); refine wpQuiet_nil ?_) | (refine Mix.mix_p (by simp only [List.getElem?_toArray, List.getElem?_cons_zero, List.getElem?_cons_succ]; exact rfl) rfl rfl ?_; go_big_quiet_step (fail); refine wpQuiet_nil ?_) | (refine Mix.mix_s (by simp only [List.getElem?_toArray, List.getElem?_cons_zero, List.getElem?_cons_succ]; exact rfl) rfl rfl ?_; go_big_quiet_step (fail); refine wpQuiet_nil ?_))
  refine Mix.mix_a (by simp only [List.getElem?_toArray, List.getElem?_cons_zero, List.getElem?_cons_succ]; exact rfl) rfl fun W9 hW9 => ?_
  obtain ⟨n9, rfl⟩ := hW9
  go_wp2_with fail
  refine (flist_any B p cb fb _ s1 _ _ (HR2.out.drewN n9).fm H T' HiH.out HiT.out HiL.out.1 HiL.out.2).mono ?_
  rintro e w9 ⟨v9, rfl, hrow9, hc9⟩
  rw [flist_length, HiF.out] at hrow9
  obtain ⟨a9, c9, rfl, _⟩ := own_slice hrow9
  have hc9' : Ch (fun _ => False) w2 w9 := hc9.ofDrewN
  have hkeep : Mix.Keep S w2 w9 := fun j hj => hc9'.block j (by rw [(HS.out j).1 hj]; exact HR2.out.x.lt) id
  have hR9 := HR2.out.keep hc9'
  clear x0 gx0 x1 gx1 x3 gx3 x4 gx4 x5 gx5 x6 gx6 x9 gx9 x11 gx11 x18 gx18
  have x0 : w9.cell? ⟨X, 0, none⟩ = some (.pointer (some ⟨fb, 0, none⟩)) := hR9.x.cell 0
  have gx0 := hR9.x.free 0
  have x1 : w9.cell? ⟨X, 1, none⟩ = some (.pointer (some ⟨pb, 0, none⟩)) := hR9.x.cell 1
  have gx1 := hR9.x.free 1
  have x3 : w9.cell? ⟨X, 3, none⟩ = some (.int .i64 x.f.n) := hR9.x.cell 3
  have gx3 := hR9.x.free 3
  have x4 : w9.cell? ⟨X, 4, none⟩ = some (.slice Ap x.pushed.length cp) := hR9.x.cell 4
  have gx4 := hR9.x.free 4
  have x5 : w9.cell? ⟨X, 5, none⟩ = some (.slice Ai x.items.length ci) := hR9.x.cell 5
  have gx5 := hR9.x.free 5
  have x6 : w9.cell? ⟨X, 6, none⟩ = some (.int .i64 x.ended) := hR9.x.cell 6
  have gx6 := hR9.x.free 6
  have x9 : w9.cell? ⟨X, 9, none⟩ = some (.int .i64 ((x.steps : Int) + 1)) := hR9.x.cell 9
  have gx9 := hR9.x.free 9
  have x11 : w9.cell? ⟨X, 11, none⟩ = some (.bool x.full) := hR9.x.cell 11
  have gx11 := hR9.x.free 11
  have x18 : w9.cell? ⟨X, 18, none⟩ = some (.bool true) := hR9.x.cell 18
  have gx18 := hR9.x.free 18
  have HR9 := hid hR9
  clear hR9 hc9 hc9' hrow9
  go_wp2_with fail
  refine ⟨hkeep, ?_⟩
  clear hkeep
  repeat (first | (refine Mix.mix_q (by simp only [List.getElem?_toArray, List.getElem?_cons_zero, List.getElem?_cons_succ]; exact rfl) rfl ?_; go_big_quiet_step (fail); refine wpQuiet_nil ?_) | (refine Mix.mix_p (by simp only [List.getElem?_toArray, List.getElem?_cons_zero, List.getElem?_cons_succ]; exact rfl) rfl rfl ?_; go_big_quiet_step (fail); refine wpQuiet_nil ?_) | (refine Mix.mix_s (by simp only [List.getElem?_toArray, List.getElem?_cons_zero, List.getElem?_cons_succ]; exact rfl) rfl rfl ?_; go_big_quiet_step (fail); refine wpQuiet_nil ?_))
  intro n2
  go_wp2_with fail
  refine Mix.wp_region_mix S (fun i => ([1, 0, 0, 0, 0, 0, 0, 0, 0, 0, 0, 0, 0, 0, 0, 0, 0, 3, 0, 1, 1, 1, 4, 0, 0, 0, 0, 2] : List Nat).getD i 0) [0, 1, 2, 3, 4, 5, 6, 7, 8, 9, 10, 11, 12, 13, 14, 15, 16, 19, 20, 21, 22, 17, 18, 23, 24, 25, 26, 27] (by kernel_rfl) (by kernel_rfl) ?_
  refine Mix.mix_world fun w3 hw3 => ?_
  have hR3 := (HR9.out.drewN n2).put 11 (.bool true)
  rw [← hw3] at hR3
  clear x0 gx0 x1 gx1 x3 gx3 x4 gx4 x5 gx5 x6 gx6 x9 gx9 x11 gx11 x18 gx18
  clear hw3
  have x0 : w3.cell? ⟨X, 0, none⟩ = some (.pointer (some ⟨fb, 0, none⟩)) := hR3.x.cell 0
  have gx0 := hR3.x.free 0
  have x1 : w3.cell? ⟨X, 1, none⟩ = some (.pointer (some ⟨pb, 0, none⟩)) := hR3.x.cell 1
  have gx1 := hR3.x.free 1
  have x3 : w3.cell? ⟨X, 3, none⟩ = some (.int .i64 x.f.n) := hR3.x.cell 3
  have gx3 := hR3.x.free 3
  have x4 : w3.cell? ⟨X, 4, none⟩ = some (.slice Ap x.pushed.length cp) := hR3.x.cell 4
  have gx4 := hR3.x.free 4
  have x5 : w3.cell? ⟨X, 5, none⟩ = some (.slice Ai x.items.length ci) := hR3.x.cell 5
  have gx5 := hR3.x.free 5
  have x6 : w3.cell? ⟨X, 6, none⟩ = some (.int .i64 x.ended) := hR3.x.cell 6
  have gx6 := hR3.x.free 6
  have x9 : w3.cell? ⟨X, 9, none⟩ = some (.int .i64 ((x.steps : Int) + 1)) := hR3.x.cell 9
  have gx9 := hR3.x.free 9
  have x11 : w3.cell? ⟨X, 11, none⟩ = some (.bool true) := hR3.x.cell 11
  have gx11 := hR3.x.free 11
  have x18 : w3.cell? ⟨X, 18, none⟩ = some (.bool true) := hR3.x.cell 18
  have gx18 := hR3.x.free 18
  have HR3 := hid hR3
  clear hR3
  repeat (first | (refine Mix.mix_q (by simp only [List.getElem?_toArray, List.getElem?_cons_zero, List.getElem?_cons_succ]; exact rfl) rfl ?_; go_big_quiet_step (fail); refine wpQuiet_nil ?_) | (refine Mix.mix_p (by simp only [List.getElem?_toArray, List.getElem?_cons_zero, List.getElem?_cons_succ]; exact rfl) rfl rfl ?_; go_big_quiet_step (fail); refine wpQuiet_nil ?_) | (refine Mix.mix_s (by simp only [List.getElem?_toArray, List.getElem?_cons_zero, List.getElem?_cons_succ]; exact rfl) rfl rfl ?_; go_big_quiet_step (fail); refine wpQuiet_nil ?_))
  refine Mix.mix_a (by simp only [List.getElem?_toArray, List.getElem?_cons_zero, List.getElem?_cons_succ]; exact rfl) rfl fun W4 hW4 => ?_
  obtain ⟨n4, rfl⟩ := hW4
  go_wp2_with fail
  refine (flist_any B p cb fb _ s1 _ _ (HR3.out.drewN n4).fm H T' HiH.out HiT.out HiL.out.1 HiL.out.2).mono ?_
  rintro e w4 ⟨v4, rfl, hrow4, hc4⟩
  rw [flist_length, HiF.out] at hrow4
  obtain ⟨a4, c4, rfl, _⟩ := own_slice hrow4
  have hc4' : Ch (fun _ => False) w3 w4 := hc4.ofDrewN
  have hkeep : Mix.Keep S w3 w4 := fun j hj => hc4'.block j (by rw [(HS.out j).1 hj]; exact HR3.out.x.lt) id
  have hR4 := HR3.out.keep hc4'
  clear x0 gx0 x1 gx1 x3 gx3 x4 gx4 x5 gx5 x6 gx6 x9 gx9 x11 gx11 x18 gx18
  have x0 : w4.cell? ⟨X, 0, none⟩ = some (.pointer (some ⟨fb, 0, none⟩)) := hR4.x.cell 0
  have gx0 := hR4.x.free 0
  have x1 : w4.cell? ⟨X, 1, none⟩ = some (.pointer (some ⟨pb, 0, none⟩)) := hR4.x.cell 1
  have gx1 := hR4.x.free 1
  have x3 : w4.cell? ⟨X, 3, none⟩ = some (.int .i64 x.f.n) := hR4.x.cell 3
  have gx3 := hR4.x.free 3
  have x4 : w4.cell? ⟨X, 4, none⟩ = some (.slice Ap x.pushed.length cp) := hR4.x.cell 4
  have gx4 := hR4.x.free 4
  have x5 : w4.cell? ⟨X, 5, none⟩ = some (.slice Ai x.items.length ci) := hR4.x.cell 5
  have gx5 := hR4.x.free 5
  have x6 : w4.cell? ⟨X, 6, none⟩ = some (.int .i64 x.ended) := hR4.x.cell 6
  have gx6 := hR4.x.free 6
  have x9 : w4.cell? ⟨X, 9, none⟩ = some (.int .i64 ((x.steps : Int) + 1)) := hR4.x.cell 9
  have gx9 := hR4.x.free 9
  have x11 : w4.cell? ⟨X, 11, none⟩ = some (.bool true) := hR4.x.cell 11
  have gx11 := hR4.x.free 11
  have x18 : w4.cell? ⟨X, 18, none⟩ = some (.bool true) := hR4.x.cell 18
  have gx18 := hR4.x.free 18
  have HR4 := hid hR4
  clear hR4 hc4 hc4' hrow4
  go_wp2_with fail
  refine ⟨hkeep, ?_⟩
  clear hkeep
  repeat (first | (refine Mix.mix_q (by simp only [List.getElem?_toArray, List.getElem?_cons_zero, List.getElem?_cons_succ]; exact rfl) rfl ?_; go_big_quiet_step (fail); refine wpQuiet_nil ?_) | (refine Mix.mix_p (by simp only [List.getElem?_toArray, List.getElem?_cons_zero, List.getElem?_cons_succ]; exact rfl) rfl rfl ?_; go_big_quiet_step (fail); refine wpQuiet_nil ?_) | (refine Mix.mix_s (by simp only [List.getElem?_toArray, List.getElem?_cons_zero, List.getElem?_cons_succ]; exact rfl) rfl rfl ?_; go_big_quiet_step (fail); refine wpQuiet_nil ?_))
  refine Mix.mix_e (by simp only [List.getElem?_toArray, List.getElem?_cons_zero, List.getElem?_cons_succ]; exact rfl) rfl fun W5 hW5 => ?_
  obtain ⟨n5, rfl⟩ := hW5
  go_wp2_with fail
  intro n6
  go_wp2_with fail
  go_ret
  refine ⟨rfl, ?_⟩
  have hE : x.stP q = { x with s := s1, f := x.f.psh (nx != 0), steps := x.steps + 1, P := some (q.next (s1, nx, l1)), full := true } := by
    unfold Xs.stP
    rw [Ho.out]
    simp only [hnx, h29, Hflx.out, if_false, show ((31:Int) = 29) = False from by simp, show decide ((29 : Int) = 29) = true from rfl, show (29 : Int) = 31 ↔ False from by simp, hg2, decide_true, Bool.and_self, Bool.or_true]
  rw [hE]
  exact runX_mk (((HR4.out.drewN n5).put 18 (.bool true)).drewN n6) pb rb rfl rfl rfl rfl rfl rfl rfl (by rfl) rfl

set_option maxRecDepth 100000 in
set_option maxHeartbeats 2000000 in
theorem produce_ib (B p cb fb X : Nat) (x : Xs) (m H T a : Nat) (k : Int) (w0 w : World) (q : Pd) (hI : Inv x m H T a) (hm : m ≤ 1000) (hP : x.P = some q) (hX : RunX B p cb fb X x w0 w) (h29 : q.ph = 29) (hge0 : ¬ x.f.n ≤ flen (pstep x.s x.f q).1 x.f) :
    Calls Try.prog 15 #[.pointer (some ⟨X, 0, none⟩), .int .u64 k] w fun e w' => e = .returned (.bool true) ∧ RunX B p cb fb X (x.stP q) w0 w' := by
  obtain ⟨T', hI', hfl, hsx⟩ := inv_stP hI hm hP
  have hq := hI.prod q hP
  have hlp := hI.lastp hP
  have hlP := hI.lastP
  have hlg := hI.lg
  have hsn : x.steps ≤ 5 := by omega
  have hn6 := hI.n1
  have hitl : x.items.length ≤ 2000 := by rw [hI.il]; have := hI.HT; omega
  have hpul : x.pushed.length ≤ 2000 := by have := hI.pm; omega
  have hpu1 : 1 ≤ x.pushed.length := by have := hI.plen hP; omega
  have hend : x.ended ≤ 2000 := by have := hI.plen hP; omega
  obtain ⟨lv, vp, vi, vg, vl, pb, rb, hR⟩ := hX
  rw [hP] at hR
  obtain ⟨s1, nx, l1, ho⟩ : ∃ s1 nx l1, pstep x.s x.f q = (s1, nx, l1) := ⟨_, _, _, rfl⟩
  have hph := hq.ph
  have hqt := hq.t
  have hqp := hq.p
  have HiH : Hid (cHead s1 (x.f.psh (nx != 0)) = (H : Nat)) := hid (by have := hI'.hH; simp only [Xs.stP, ho] at this; exact this)
  have HiT : Hid (cTail s1 (x.f.psh (nx != 0)) = (T' : Nat)) := hid (by have := hI'.hT; simp only [Xs.stP, ho] at this; exact this)
  have HiL : Hid (H ≤ T' ∧ T' ≤ 1000000) := hid (by have := hI'.HT; omega)
  obtain ⟨fl, hflen⟩ : ∃ fl : Nat, flen s1 (x.f.psh (nx != 0)) = fl := ⟨_, rfl⟩
  rw [ho] at hfl
  have hfl' : fl ≤ x.f.n := by rw [← hflen]; exact hfl
  have HiF := hid hflen
  have hnx : nx ≠ 0 := by
    have : (pstep x.s x.f q).2.1 ≠ 0 := by
      unfold pstep; rw [if_neg (by rw [h29]; decide), if_neg (by rw [h29]; decide), if_neg (by rw [h29]; decide), if_pos h29]
      show (if _ then (30 : Int) else 32) ≠ 0
      split <;> decide
    rw [ho] at this
    exact this
  have hflx : flen s1 x.f = fl := hflen
  have Hflx := hid hflx
  clear hflx
  have hge : ¬ x.f.n ≤ flen (pstep x.s x.f q).1 x.f := hge0
  rw [ho] at hge
  have hge1 : ¬ x.f.n ≤ fl := by rw [← hflen]; exact hge
  clear hge hge0
  clear hfl hflen hI' hq hI
  obtain ⟨Ap, cp, rfl, _⟩ := own_slice hR.rp
  obtain ⟨Ai, ci, rfl, _⟩ := own_slice hR.ri
  obtain ⟨S, hS⟩ : ∃ S : Nat → Prop, ∀ k, S k ↔ k = X := ⟨_, fun _ => Iff.rfl⟩
  have hSp : Mix.Has S X := (hS _).2 rfl
  have HS := hid hS
  clear hS
  have hb6 : decide ((x.steps : Int) + 1 ≤ 6) = true := by simp; omega
  have hbN1 : decide ((fl : Int) ≤ (x.f.n : Int)) = true := by simp; omega
  have hbN2 : decide (fl ≤ x.f.n) = true := by simp; omega
  have x0 : w.cell? ⟨X, 0, none⟩ = some (.pointer (some ⟨fb, 0, none⟩)) := hR.x.cell 0
  have gx0 := hR.x.free 0
  have x1 : w.cell? ⟨X, 1, none⟩ = some (.pointer (some ⟨pb, 0, none⟩)) := hR.x.cell 1
  have gx1 := hR.x.free 1
  have x3 : w.cell? ⟨X, 3, none⟩ = some (.int .i64 x.f.n) := hR.x.cell 3
  have gx3 := hR.x.free 3
  have x4 : w.cell? ⟨X, 4, none⟩ = some (.slice Ap x.pushed.length cp) := hR.x.cell 4
  have gx4 := hR.x.free 4
  have x5 : w.cell? ⟨X, 5, none⟩ = some (.slice Ai x.items.length ci) := hR.x.cell 5
  have gx5 := hR.x.free 5
  have x6 : w.cell? ⟨X, 6, none⟩ = some (.int .i64 x.ended) := hR.x.cell 6
  have gx6 := hR.x.free 6
  have x9 : w.cell? ⟨X, 9, none⟩ = some (.int .i64 x.steps) := hR.x.cell 9
  have gx9 := hR.x.free 9
  have x11 : w.cell? ⟨X, 11, none⟩ = some (.bool x.full) := hR.x.cell 11
  have gx11 := hR.x.free 11
  have x18 : w.cell? ⟨X, 18, none⟩ = some (.bool true) := hR.x.cell 18
  have gx18 := hR.x.free 18
  have hb29 : (q.ph == 29) = true := by rw [beq_iff_eq]; exact h29
  have hb31 : (q.ph == 31) = false := by rw [beq_eq_false_iff_ne, h29]; decide
  have hbn : (nx == 0) = false := by rw [beq_eq_false_iff_ne]; exact hnx
  have hg1 : decide ((x.f.n : Int) ≤ (fl : Int)) = false := by simp; omega
  have hg2 : decide (x.f.n ≤ fl) = false := by simp; omega
  have HR := hid hR
  have Hph := hid hph
  have Hqt := hid hqt
  have Hqp := hid hqp
  have Ho := hid ho
  have HP := hid hP
  have Hlp := hid hlp
  clear hR hph hqt hqp ho hP hlp
  go_enter Try.func15, Try.ntmps15
  go_wp2_with fail
  refine (pstep_any B p cb fb pb lv x.s x.f q w HR.out.fm (HR.out.pp pb q rfl).1 ⟨by rw [Hqt.out]; decide, by rw [Hqt.out]; decide⟩ (by omega) HR.out.bz ⟨by rw [Hqp.out]; omega, by rw [Hqp.out]; omega⟩ Hph.out).mono ?_
  rw [Ho.out]
  rintro e w1 ⟨rfl, lv1, hf1, hq1, hc1, hy1⟩
  have hR1 := HR.out.pushed rfl hf1 hq1 hc1
  clear hf1 hq1 hc1 hy1
  clear x0 gx0 x1 gx1 x3 gx3 x4 gx4 x5 gx5 x6 gx6 x9 gx9 x11 gx11 x18 gx18
  have x0 : w1.cell? ⟨X, 0, none⟩ = some (.pointer (some ⟨fb, 0, none⟩)) := hR1.x.cell 0
  have gx0 := hR1.x.free 0
  have x1 : w1.cell? ⟨X, 1, none⟩ = some (.pointer (some ⟨pb, 0, none⟩)) := hR1.x.cell 1
  have gx1 := hR1.x.free 1
  have x3 : w1.cell? ⟨X, 3, none⟩ = some (.int .i64 x.f.n) := hR1.x.cell 3
  have gx3 := hR1.x.free 3
  have x4 : w1.cell? ⟨X, 4, none⟩ = some (.slice Ap x.pushed.length cp) := hR1.x.cell 4
  have gx4 := hR1.x.free 4
  have x5 : w1.cell? ⟨X, 5, none⟩ = some (.slice Ai x.items.length ci) := hR1.x.cell 5
  have gx5 := hR1.x.free 5
  have x6 : w1.cell? ⟨X, 6, none⟩ = some (.int .i64 x.ended) := hR1.x.cell 6
  have gx6 := hR1.x.free 6
  have x9 : w1.cell? ⟨X, 9, none⟩ = some (.int .i64 x.steps) := hR1.x.cell 9
  have gx9 := hR1.x.free 9
  have x11 : w1.cell? ⟨X, 11, none⟩ = some (.bool x.full) := hR1.x.cell 11
  have gx11 := hR1.x.free 11
  have x18 : w1.cell? ⟨X, 18, none⟩ = some (.bool true) := hR1.x.cell 18
  have gx18 := hR1.x.free 18
  have HR1 := hid hR1
  clear hR1
  go_wp2_with fail
  refine Mix.wp_region_mix S (fun i => ([0, 0, 0, 0, 0, 0, 0, 3, 0, 1, 1, 1, 4, 0, 0] : List Nat).getD i 0) [0, 1, 2, 3, 4, 5, 6, 9, 10, 11, 12, 7, 8, 13, 14] (by kernel_rfl) (by kernel_rfl) ?_
  refine Mix.mix_world fun w2 hw2 => ?_
  have hR2 := HR1.out.put 9 (.int .i64 ((x.steps : Int) + 1))
  rw [← hw2] at hR2
  clear x0 gx0 x1 gx1 x3 gx3 x4 gx4 x5 gx5 x6 gx6 x9 gx9 x11 gx11 x18 gx18
  clear hw2
  have x0 : w2.cell? ⟨X, 0, none⟩ = some (.pointer (some ⟨fb, 0, none⟩)) := hR2.x.cell 0
  have gx0 := hR2.x.free 0
  have x1 : w2.cell? ⟨X, 1, none⟩ = some (.pointer (some ⟨pb, 0, none⟩)) := hR2.x.cell 1
  have gx1 := hR2.x.free 1
  have x3 : w2.cell? ⟨X, 3, none⟩ = some (.int .i64 x.f.n) := hR2.x.cell 3
  have gx3 := hR2.x.free 3
  have x4 : w2.cell? ⟨X, 4, none⟩ = some (.slice Ap x.pushed.length cp) := hR2.x.cell 4
  have gx4 := hR2.x.free 4
  have x5 : w2.cell? ⟨X, 5, none⟩ = some (.slice Ai x.items.length ci) := hR2.x.cell 5
  have gx5 := hR2.x.free 5
  have x6 : w2.cell? ⟨X, 6, none⟩ = some (.int .i64 x.ended) := hR2.x.cell 6
  have gx6 := hR2.x.free 6
  have x9 : w2.cell? ⟨X, 9, none⟩ = some (.int .i64 ((x.steps : Int) + 1)) := hR2.x.cell 9
  have gx9 := hR2.x.free 9
  have x11 : w2.cell? ⟨X, 11, none⟩ = some (.bool x.full) := hR2.x.cell 11
  have gx11 := hR2.x.free 11
  have x18 : w2.cell? ⟨X, 18, none⟩ = some (.bool true) := hR2.x.cell 18
  have gx18 := hR2.x.free 18
  have HR2 := hid hR2
  clear hR2
  repeat (first | (refine Mix.mix_q (by simp only [List.getElem?_toArray, List.getElem?_cons_zero, List.getElem?_cons_succ]; exact rfl) rfl ?_; go_big_quiet_step (fail); refine wpQuiet_nil ?_) | (refine Mix.mix_p (by simp only [List.getElem?_toArray, List.getElem?_cons_zero, List.getElem?_cons_succ]; exact rfl) rfl rfl ?_; go_big_quiet_step (fail); refine wpQuiet_nil ?_) | (refine Mix.mix_s (by simp only [List.getElem?_toArray, List.getElem?_cons_zero, List.getElem?_cons_succ]; exact rfl) rfl rfl ?_; go_big_quiet_step (fail); refine wpQuiet_nil ?_))
  refine Mix.mix_a (by simp only [List.getElem?_toArray, List.getElem?_cons_zero, List.getElem?_cons_succ]; exact rfl) rfl fun W9 hW9 => ?_
  obtain ⟨n9, rfl⟩ := hW9
  go_wp2_with fail
  refine (flist_any B p cb fb _ s1 _ _ (HR2.out.drewN n9).fm H T' HiH.out HiT.out HiL.out.1 HiL.out.2).mono ?_
  rintro e w9 ⟨v9, rfl, hrow9, hc9⟩
  rw [flist_length, HiF.out] at hrow9
  obtain ⟨a9, c9, rfl, _⟩ := own_slice hrow9
  have hc9' : Ch (fun _ => False) w2 w9 := hc9.ofDrewN
  have hkeep : Mix.Keep S w2 w9 := fun j hj => hc9'.block j (by rw [(HS.out j).1 hj]; exact HR2.out.x.lt) id
  have hR9 := HR2.out.keep hc9'
  clear x0 gx0 x1 gx1 x3 gx3 x4 gx4 x5 gx5 x6 gx6 x9 gx9 x11 gx11 x18 gx18
  have x0 : w9.cell? ⟨X, 0, none⟩ = some (.pointer (some ⟨fb, 0, none⟩)) := hR9.x.cell 0
  have gx0 := hR9.x.free 0
  have x1 : w9.cell? ⟨X, 1, none⟩ = some (.pointer (some ⟨pb, 0, none⟩)) := hR9.x.cell 1
  have gx1 := hR9.x.free 1
  have x3 : w9.cell? ⟨X, 3, none⟩ = some (.int .i64 x.f.n) := hR9.x.cell 3
  have gx3 := hR9.x.free 3
  have x4 : w9.cell? ⟨X, 4, none⟩ = some (.slice Ap x.pushed.length cp) := hR9.x.cell 4
  have gx4 := hR9.x.free 4
  have x5 : w9.cell? ⟨X, 5, none⟩ = some (.slice Ai x.items.length ci) := hR9.x.cell 5
  have gx5 := hR9.x.free 5
  have x6 : w9.cell? ⟨X, 6, none⟩ = some (.int .i64 x.ended) := hR9.x.cell 6
  have gx6 := hR9.x.free 6
  have x9 : w9.cell? ⟨X, 9, none⟩ = some (.int .i64 ((x.steps : Int) + 1)) := hR9.x.cell 9
  have gx9 := hR9.x.free 9
  have x11 : w9.cell? ⟨X, 11, none⟩ = some (.bool x.full) := hR9.x.cell 11
  have gx11 := hR9.x.free 11
  have x18 : w9.cell? ⟨X, 18, none⟩ = some (.bool true) := hR9.x.cell 18
  have gx18 := hR9.x.free 18
  have HR9 := hid hR9
  clear hR9 hc9 hc9' hrow9
  go_wp2_with fail
  refine ⟨hkeep, ?_⟩
  clear hkeep
  repeat (first | (refine Mix.mix_q (by simp only [List.getElem?_toArray, List.getElem?_cons_zero, List.getElem?_cons_succ]; exact rfl) rfl ?_; go_big_quiet_step (fail); refine wpQuiet_nil ?_) | (refine Mix.mix_p (by simp only [List.getElem?_toArray, List.getElem?_cons_zero, List.getElem?_cons_succ]; exact rfl) rfl rfl ?_; go_big_quiet_step (fail); refine wpQuiet_nil ?_) | (refine Mix.mix_s (by simp only [List.getElem?_toArray, List.getElem?_cons_zero, List.getElem?_cons_succ]; exact rfl) rfl rfl ?_; go_big_quiet_step (fail); refine wpQuiet_nil ?_))
  intro n2
  go_wp2_with fail
  refine Mix.wp_region_mix S (fun i => ([1, 0, 0, 0, 0, 0, 0, 0, 0, 0, 0, 0, 0, 0, 0, 0, 0, 3, 0, 1, 1, 1, 4, 0, 0, 0, 0, 2] : List Nat).getD i 0) [0, 1, 2, 3, 4, 5, 6, 7, 8, 9, 10, 11, 12, 13, 14, 15, 16, 19, 20, 21, 22, 17, 18, 23, 24, 25, 26, 27] (by kernel_rfl) (by kernel_rfl) ?_
  refine Mix.mix_world fun w3 hw3 => ?_
  have hR3 := HR9.out.drewN n2
  rw [← hw3] at hR3
  clear x0 gx0 x1 gx1 x3 gx3 x4 gx4 x5 gx5 x6 gx6 x9 gx9 x11 gx11 x18 gx18
  clear hw3
  have x0 : w3.cell? ⟨X, 0, none⟩ = some (.pointer (some ⟨fb, 0, none⟩)) := hR3.x.cell 0
  have gx0 := hR3.x.free 0
  have x1 : w3.cell? ⟨X, 1, none⟩ = some (.pointer (some ⟨pb, 0, none⟩)) := hR3.x.cell 1
  have gx1 := hR3.x.free 1
  have x3 : w3.cell? ⟨X, 3, none⟩ = some (.int .i64 x.f.n) := hR3.x.cell 3
  have gx3 := hR3.x.free 3
  have x4 : w3.cell? ⟨X, 4, none⟩ = some (.slice Ap x.pushed.length cp) := hR3.x.cell 4
  have gx4 := hR3.x.free 4
  have x5 : w3.cell? ⟨X, 5, none⟩ = some (.slice Ai x.items.length ci) := hR3.x.cell 5
  have gx5 := hR3.x.free 5
  have x6 : w3.cell? ⟨X, 6, none⟩ = some (.int .i64 x.ended) := hR3.x.cell 6
  have gx6 := hR3.x.free 6
  have x9 : w3.cell? ⟨X, 9, none⟩ = some (.int .i64 ((x.steps : Int) + 1)) := hR3.x.cell 9
  have gx9 := hR3.x.free 9
  have x11 : w3.cell? ⟨X, 11, none⟩ = some (.bool x.full) := hR3.x.cell 11
  have gx11 := hR3.x.free 11
  have x18 : w3.cell? ⟨X, 18, none⟩ = some (.bool true) := hR3.x.cell 18
  have gx18 := hR3.x.free 18
  have HR3 := hid hR3
  clear hR3
  repeat (first | (refine Mix.mix_q (by simp only [List.getElem?_toArray, List.getElem?_cons_zero, List.getElem?_cons_succ]; exact rfl) rfl ?_; go_big_quiet_step (fail); refine wpQuiet_nil ?_) | (refine Mix.mix_p (by simp only [List.getElem?_toArray, List.getElem?_cons_zero, List.getElem?_cons_succ]; exact rfl) rfl rfl ?_; go_big_quiet_step (fail); refine wpQuiet_nil ?_) | (refine Mix.mix_s (by simp only [List.getElem?_toArray, List.getElem?_cons_zero, List.getElem?_cons_succ]; exact rfl) rfl rfl ?_; go_big_quiet_step (fail); refine wpQuiet_nil ?_))
  refine Mix.mix_a (by simp only [List.getElem?_toArray, List.getElem?_cons_zero, List.getElem?_cons_succ]; exact rfl) rfl fun W4 hW4 => ?_
  obtain ⟨n4, rfl⟩ := hW4
  go_wp2_with fail
  refine (flist_any B p cb fb _ s1 _ _ (HR3.out.drewN n4).fm H T' HiH.out HiT.out HiL.out.1 HiL.out.2).mono ?_
  rintro e w4 ⟨v4, rfl, hrow4, hc4⟩
  rw [flist_length, HiF.out] at hrow4
  obtain ⟨a4, c4, rfl, _⟩ := own_slice hrow4
  have hc4' : Ch (fun _ => False) w3 w4 := hc4.ofDrewN
  have hkeep : Mix.Keep S w3 w4 := fun j hj => hc4'.block j (by rw [(HS.out j).1 hj]; exact HR3.out.x.lt) id
  have hR4 := HR3.out.keep hc4'
  clear x0 gx0 x1 gx1 x3 gx3 x4 gx4 x5 gx5 x6 gx6 x9 gx9 x11 gx11 x18 gx18
  have x0 : w4.cell? ⟨X, 0, none⟩ = some (.pointer (some ⟨fb, 0, none⟩)) := hR4.x.cell 0
  have gx0 := hR4.x.free 0
  have x1 : w4.cell? ⟨X, 1, none⟩ = some (.pointer (some ⟨pb, 0, none⟩)) := hR4.x.cell 1
  have gx1 := hR4.x.free 1
  have x3 : w4.cell? ⟨X, 3, none⟩ = some (.int .i64 x.f.n) := hR4.x.cell 3
  have gx3 := hR4.x.free 3
  have x4 : w4.cell? ⟨X, 4, none⟩ = some (.slice Ap x.pushed.length cp) := hR4.x.cell 4
  have gx4 := hR4.x.free 4
  have x5 : w4.cell? ⟨X, 5, none⟩ = some (.slice Ai x.items.length ci) := hR4.x.cell 5
  have gx5 := hR4.x.free 5
  have x6 : w4.cell? ⟨X, 6, none⟩ = some (.int .i64 x.ended) := hR4.x.cell 6
  have gx6 := hR4.x.free 6
  have x9 : w4.cell? ⟨X, 9, none⟩ = some (.int .i64 ((x.steps : Int) + 1)) := hR4.x.cell 9
  have gx9 := hR4.x.free 9
  have x11 : w4.cell? ⟨X, 11, none⟩ = some (.bool x.full) := hR4.x.cell 11
  have gx11 := hR4.x.free 11
  have x18 : w4.cell? ⟨X, 18, none⟩ = some (.bool true) := hR4.x.cell 18
  have gx18 := hR4.x.free 18
  have HR4 := hid hR4
  clear hR4 hc4 hc4' hrow4
  go_wp2_with fail
  refine ⟨hkeep, ?_⟩
  clear hkeep
  repeat (first | (refine Mix.mix_q (by simp only [List.getElem?_toArray, List.getElem?_cons_zero, List.getElem?_cons_succ]; exact rfl) rfl ?_; go_big_quiet_step (fail); refine wpQuiet_nil ?_) | (refine Mix.mix_p (by simp only [List.getElem?_toArray, List.getElem?_cons_zero, List.getElem?_cons_succ]; exact rfl) rfl rfl ?_; go_big_quiet_step (fail); refine wpQuiet_nil ?_) | (refine Mix.mix_s (by simp only [List.getElem?_toArray, List.getElem?_cons_zero, List.getElem?_cons_succ]; exact rfl) rfl rfl ?_; go_big_quiet_step (fail); refine wpQuiet_nil ?_))
  refine Mix.mix_e (by simp only [List.getElem?_toArray, List.getElem?_cons_zero, List.getElem?_cons_succ]; exact rfl) rfl fun W5 hW5 => ?_
  obtain ⟨n5, rfl⟩ := hW5
  go_wp2_with fail
  intro n6
  go_wp2_with fail
  go_ret
  refine ⟨rfl, ?_⟩
  have hE : x.stP q = { x with s := s1, f := x.f.psh (nx != 0), steps := x.steps + 1, P := some (q.next (s1, nx, l1)), full := x.full } := by
    unfold Xs.stP
    rw [Ho.out]
    simp only [hnx, h29, Hflx.out, if_false, show decide ((29 : Int) = 29) = true from rfl, show (29 : Int) = 31 ↔ False from by simp, hg2, Bool.and_false, Bool.or_false]
  rw [hE]
  exact runX_mk (((HR4.out.drewN n5).put 18 (.bool true)).drewN n6) pb rb rfl rfl rfl rfl rfl rfl rfl (by rfl) rfl

theorem produce_step (B p cb fb X : Nat) (x : Xs) (m H T a : Nat) (k : Int) (w0 w : World) (q : Pd) (hI : Inv x m H T a) (hm : m ≤ 1000) (hP : x.P = some q) (hX : RunX B p cb fb X x w0 w) :
    Calls Try.prog 15 #[.pointer (some ⟨X, 0, none⟩), .int .u64 k] w fun e w' => e = .returned (.bool true) ∧ RunX B p cb fb X (x.stP q) w0 w' := by
  by_cases h29 : q.ph = 29
  · by_cases hg : x.f.n ≤ flen (pstep x.s x.f q).1 x.f
    · exact produce_ia B p cb fb X x m H T a k w0 w q hI hm hP hX h29 hg
    · exact produce_ib B p cb fb X x m H T a k w0 w q hI hm hP hX h29 hg
  · by_cases h31 : q.ph = 31
    · exact produce_ii B p cb fb X x m H T a k w0 w q hI hm hP hX h31
    · by_cases hz : (pstep x.s x.f q).2.1 = 0
      · exact produce_iii B p cb fb X x m H T a k w0 w q hI hm hP hX h29 h31 hz
      · exact produce_iv B p cb fb X x m H T a k w0 w q hI hm hP hX h29 h31 hz
end Go.Proofs.Ytonjbofdmmnpdaa
