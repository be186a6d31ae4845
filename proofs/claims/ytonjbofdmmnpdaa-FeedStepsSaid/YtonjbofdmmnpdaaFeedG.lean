/- The feed: the chapter's examples. -/
import Derived.Test.YtonjbofdmmnpdaaFeedF
namespace Go.Proofs.Ytonjbofdmmnpdaa
open Go.RowKit
set_option linter.unusedVariables false
set_option linter.unusedSimpArgs false

theorem pstep_lg (s : BS) (F : Fd) (q : Pd) : (pstep s F q).1.lg.length = s.lg.length + 1 := by
  unfold pstep
  repeat' split
  all_goals first | exact load_lg _ _ _ | exact store_lg _ _ _ _ | exact cas_lg _ _ _ _ _
theorem stepsP_lg (s : BS) (F : Fd) (q : Pd) : ∀ k, (stepsP s F q k).1.lg.length = s.lg.length + k
  | 0 => rfl
  | k + 1 => (pstep_lg _ _ _).trans (by rw [stepsP_lg s F q k]; omega)
theorem rstep_lg (s : BS) (F : Fd) (r : Rd) : (rstep s F r).1.lg.length = s.lg.length + 1 := by
  unfold rstep
  repeat' split
  all_goals first | exact load_lg _ _ _ | exact store_lg _ _ _ _ | exact swap_lg _ _ _ _
theorem stepsR_lg (s : BS) (F : Fd) (r : Rd) : ∀ k, (stepsR s F r k).1.lg.length = s.lg.length + k
  | 0 => rfl
  | k + 1 => (rstep_lg _ _ _).trans (by rw [stepsR_lg s F r k]; omega)
/-- A feed of one item, its cells known, after few accesses. -/
def KF (B p cb fb : Nat) (vs : List Int) (F : Fd) (m : Nat) (w : World) : Prop := ∃ lv lg, FeedM B w p cb fb lv ⟨vs, lg⟩ F ∧ lg.length ≤ m ∧ B ≤ w.heap.size
theorem k_p3 (B p cb fb : Nat) (w : World) (h : KF B p cb fb [0, 0, 0, 0, 0] ⟨0, 1, 0, false, false⟩ 0 w) : Calls Try.prog 52 #[.pointer (some ⟨fb, 0, none⟩), .int .u64 3] w fun e w' => e = .returned (.int .i64 1) ∧ KF B p cb fb [0, 0, 0, 0, 0] ⟨0, 1, 3, false, false⟩ 1 w' ∧ Below B w w' := by
  obtain ⟨lv, lg, hf, hl, hB⟩ := h
  refine (kpush_any B p cb fb lv ⟨[0, 0, 0, 0, 0], lg⟩ ⟨0, 1, 0, false, false⟩ 3 w hf hB ⟨by decide, by decide, by decide⟩ rfl 1 ⟨by decide, by decide⟩ ?_ rfl).mono ?_
  · intro j hj
    have : j = 0 := by omega
    subst this
    · exact ⟨by rw [stepsP_lg]; show lg.length + 0 < _; omega, .inl rfl⟩
  · rintro e w' ⟨he, lv', hf', hb⟩
    refine ⟨he, ⟨lv', (stepsP ⟨[0, 0, 0, 0, 0], lg⟩ ⟨0, 1, 3, true, false⟩ ⟨1, 26, 3, 0⟩ 1).1.lg, hf', ?_, Nat.le_trans hB hb.size⟩, hb⟩
    rw [stepsP_lg]
    show lg.length + 1 ≤ _
    omega
theorem k_p4 (B p cb fb : Nat) (w : World) (h : KF B p cb fb [1, 0, 0, 0, 0] ⟨0, 1, 3, false, false⟩ 10 w) : Calls Try.prog 52 #[.pointer (some ⟨fb, 0, none⟩), .int .u64 4] w fun e w' => e = .returned (.int .i64 5) ∧ KF B p cb fb [1, 0, 0, 1, 4] ⟨0, 1, 4, false, false⟩ 15 w' ∧ Below B w w' := by
  obtain ⟨lv, lg, hf, hl, hB⟩ := h
  refine (kpush_any B p cb fb lv ⟨[1, 0, 0, 0, 0], lg⟩ ⟨0, 1, 3, false, false⟩ 4 w hf hB ⟨by decide, by decide, by decide⟩ rfl 5 ⟨by decide, by decide⟩ ?_ rfl).mono ?_
  · intro j hj
    have : j = 0 ∨ j = 1 ∨ j = 2 ∨ j = 3 ∨ j = 4 := by omega
    rcases this with rfl | rfl | rfl | rfl | rfl
    · exact ⟨by rw [stepsP_lg]; show lg.length + 0 < _; omega, .inl rfl⟩
    · exact ⟨by rw [stepsP_lg]; show lg.length + 1 < _; omega, .inr (.inl rfl)⟩
    · exact ⟨by rw [stepsP_lg]; show lg.length + 2 < _; omega, .inr (.inr (.inr (.inl rfl)))⟩
    · exact ⟨by rw [stepsP_lg]; show lg.length + 3 < _; omega, .inr (.inr (.inr (.inr (.inl rfl))))⟩
    · exact ⟨by rw [stepsP_lg]; show lg.length + 4 < _; omega, .inr (.inr (.inr (.inr (.inr (.inl rfl)))))⟩
  · rintro e w' ⟨he, lv', hf', hb⟩
    refine ⟨he, ⟨lv', (stepsP ⟨[1, 0, 0, 0, 0], lg⟩ ⟨0, 1, 4, true, false⟩ ⟨1, 26, 4, 0⟩ 5).1.lg, hf', ?_, Nat.le_trans hB hb.size⟩, hb⟩
    rw [stepsP_lg]
    show lg.length + 5 ≤ _
    omega
theorem k_p5 (B p cb fb : Nat) (w : World) (h : KF B p cb fb [1, 0, 0, 1, 4] ⟨0, 1, 4, false, false⟩ 20 w) : Calls Try.prog 52 #[.pointer (some ⟨fb, 0, none⟩), .int .u64 5] w fun e w' => e = .returned (.int .i64 4) ∧ KF B p cb fb [1, 5, 0, 1, 4] ⟨0, 1, 5, false, false⟩ 24 w' ∧ Below B w w' := by
  obtain ⟨lv, lg, hf, hl, hB⟩ := h
  refine (kpush_any B p cb fb lv ⟨[1, 0, 0, 1, 4], lg⟩ ⟨0, 1, 4, false, false⟩ 5 w hf hB ⟨by decide, by decide, by decide⟩ rfl 4 ⟨by decide, by decide⟩ ?_ rfl).mono ?_
  · intro j hj
    have : j = 0 ∨ j = 1 ∨ j = 2 ∨ j = 3 := by omega
    rcases this with rfl | rfl | rfl | rfl
    · exact ⟨by rw [stepsP_lg]; show lg.length + 0 < _; omega, .inl rfl⟩
    · exact ⟨by rw [stepsP_lg]; show lg.length + 1 < _; omega, .inr (.inl rfl)⟩
    · exact ⟨by rw [stepsP_lg]; show lg.length + 2 < _; omega, .inr (.inr (.inr (.inl rfl)))⟩
    · exact ⟨by rw [stepsP_lg]; show lg.length + 3 < _; omega, .inr (.inr (.inr (.inr (.inr (.inr rfl)))))⟩
  · rintro e w' ⟨he, lv', hf', hb⟩
    refine ⟨he, ⟨lv', (stepsP ⟨[1, 0, 0, 1, 4], lg⟩ ⟨0, 1, 5, true, false⟩ ⟨1, 26, 5, 0⟩ 4).1.lg, hf', ?_, Nat.le_trans hB hb.size⟩, hb⟩
    rw [stepsP_lg]
    show lg.length + 4 ≤ _
    omega
theorem k_p6 (B p cb fb : Nat) (w : World) (h : KF B p cb fb [1, 5, 0, 1, 4] ⟨0, 1, 5, false, false⟩ 30 w) : Calls Try.prog 52 #[.pointer (some ⟨fb, 0, none⟩), .int .u64 6] w fun e w' => e = .returned (.int .i64 3) ∧ KF B p cb fb [1, 6, 0, 1, 4] ⟨0, 1, 6, false, false⟩ 33 w' ∧ Below B w w' := by
  obtain ⟨lv, lg, hf, hl, hB⟩ := h
  refine (kpush_any B p cb fb lv ⟨[1, 5, 0, 1, 4], lg⟩ ⟨0, 1, 5, false, false⟩ 6 w hf hB ⟨by decide, by decide, by decide⟩ rfl 3 ⟨by decide, by decide⟩ ?_ rfl).mono ?_
  · intro j hj
    have : j = 0 ∨ j = 1 ∨ j = 2 := by omega
    rcases this with rfl | rfl | rfl
    · exact ⟨by rw [stepsP_lg]; show lg.length + 0 < _; omega, .inl rfl⟩
    · exact ⟨by rw [stepsP_lg]; show lg.length + 1 < _; omega, .inr (.inl rfl)⟩
    · exact ⟨by rw [stepsP_lg]; show lg.length + 2 < _; omega, .inr (.inr (.inl rfl))⟩
  · rintro e w' ⟨he, lv', hf', hb⟩
    refine ⟨he, ⟨lv', (stepsP ⟨[1, 5, 0, 1, 4], lg⟩ ⟨0, 1, 6, true, false⟩ ⟨1, 26, 6, 0⟩ 3).1.lg, hf', ?_, Nat.le_trans hB hb.size⟩, hb⟩
    rw [stepsP_lg]
    show lg.length + 3 ≤ _
    omega
theorem k_r0 (B p cb fb : Nat) (w : World) (h : KF B p cb fb [1, 6, 0, 1, 4] ⟨0, 1, 6, false, false⟩ 40 w) : Calls Try.prog 17 #[.pointer (some ⟨fb, 0, none⟩), .int .u64 0] w fun e w' => e = .returned (.tuple #[.int .u64 4, .bool false, .int .i64 0]) ∧ KF B p cb fb [1, 6, 1, 1, 4] ⟨0, 1, 6, false, false⟩ 44 w' ∧ Below B w w' := by
  obtain ⟨lv, lg, hf, hl, hB⟩ := h
  refine (krecv_any B p cb fb lv ⟨[1, 6, 0, 1, 4], lg⟩ ⟨0, 1, 6, false, false⟩ 0 w hf hB rfl 4 ⟨by decide, by decide⟩ ?_ ⟨0, 0, 0, 6, 4, false, 0⟩ rfl rfl).mono ?_
  · intro j hj
    have : j = 0 ∨ j = 1 ∨ j = 2 ∨ j = 3 := by omega
    rcases this with rfl | rfl | rfl | rfl
    · exact ⟨by rw [stepsR_lg]; show lg.length + 0 < _; omega, .inl rfl⟩
    · exact ⟨by rw [stepsR_lg]; show lg.length + 1 < _; omega, .inr (.inl rfl)⟩
    · exact ⟨by rw [stepsR_lg]; show lg.length + 2 < _; omega, .inr (.inr (.inl rfl))⟩
    · exact ⟨by rw [stepsR_lg]; show lg.length + 3 < _; omega, .inr (.inr (.inr (.inl rfl)))⟩
  · rintro e w' ⟨he, lv', hf', hb⟩
    refine ⟨he, ⟨lv', (stepsR ⟨[1, 6, 0, 1, 4], lg⟩ ⟨0, 1, 6, false, true⟩ ⟨0, 14, 0, 0, 0, false, 0⟩ 4).1.lg, hf', ?_, Nat.le_trans hB hb.size⟩, hb⟩
    rw [stepsR_lg]
    show lg.length + 4 ≤ _
    omega
theorem k_r4 (B p cb fb : Nat) (w : World) (h : KF B p cb fb [1, 6, 1, 1, 4] ⟨0, 1, 6, false, false⟩ 50 w) : Calls Try.prog 17 #[.pointer (some ⟨fb, 0, none⟩), .int .u64 4] w fun e w' => e = .returned (.tuple #[.int .u64 6, .bool true, .int .i64 0]) ∧ KF B p cb fb [1, 0, 1, 1, 4] ⟨0, 1, 6, false, false⟩ 53 w' ∧ Below B w w' := by
  obtain ⟨lv, lg, hf, hl, hB⟩ := h
  refine (krecv_any B p cb fb lv ⟨[1, 6, 1, 1, 4], lg⟩ ⟨0, 1, 6, false, false⟩ 4 w hf hB rfl 3 ⟨by decide, by decide⟩ ?_ ⟨0, 0, 4, 6, 6, true, 0⟩ rfl rfl).mono ?_
  · intro j hj
    have : j = 0 ∨ j = 1 ∨ j = 2 := by omega
    rcases this with rfl | rfl | rfl
    · exact ⟨by rw [stepsR_lg]; show lg.length + 0 < _; omega, .inl rfl⟩
    · exact ⟨by rw [stepsR_lg]; show lg.length + 1 < _; omega, .inr (.inl rfl)⟩
    · exact ⟨by rw [stepsR_lg]; show lg.length + 2 < _; omega, .inr (.inr (.inr (.inr rfl)))⟩
  · rintro e w' ⟨he, lv', hf', hb⟩
    refine ⟨he, ⟨lv', (stepsR ⟨[1, 6, 1, 1, 4], lg⟩ ⟨0, 1, 6, false, true⟩ ⟨0, 14, 4, 0, 0, false, 0⟩ 3).1.lg, hf', ?_, Nat.le_trans hB hb.size⟩, hb⟩
    rw [stepsR_lg]
    show lg.length + 3 ≤ _
    omega
theorem k_r6 (B p cb fb : Nat) (w : World) (h : KF B p cb fb [1, 0, 1, 1, 4] ⟨0, 1, 6, false, false⟩ 60 w) : Calls Try.prog 17 #[.pointer (some ⟨fb, 0, none⟩), .int .u64 6] w fun e w' => e = .returned (.tuple #[.int .u64 0, .bool false, .int .i64 17]) ∧ KF B p cb fb [1, 0, 1, 1, 4] ⟨0, 1, 6, false, false⟩ 62 w' ∧ Below B w w' := by
  obtain ⟨lv, lg, hf, hl, hB⟩ := h
  refine (krecv_any B p cb fb lv ⟨[1, 0, 1, 1, 4], lg⟩ ⟨0, 1, 6, false, false⟩ 6 w hf hB rfl 2 ⟨by decide, by decide⟩ ?_ ⟨0, 0, 6, 0, 0, false, 17⟩ rfl rfl).mono ?_
  · intro j hj
    have : j = 0 ∨ j = 1 := by omega
    rcases this with rfl | rfl
    · exact ⟨by rw [stepsR_lg]; show lg.length + 0 < _; omega, .inl rfl⟩
    · exact ⟨by rw [stepsR_lg]; show lg.length + 1 < _; omega, .inr (.inl rfl)⟩
  · rintro e w' ⟨he, lv', hf', hb⟩
    refine ⟨he, ⟨lv', (stepsR ⟨[1, 0, 1, 1, 4], lg⟩ ⟨0, 1, 6, false, true⟩ ⟨0, 14, 6, 0, 0, false, 0⟩ 2).1.lg, hf', ?_, Nat.le_trans hB hb.size⟩, hb⟩
    rw [stepsR_lg]
    show lg.length + 2 ≤ _
    omega
theorem KF.mono {B p cb fb : Nat} {vs : List Int} {F : Fd} {m m' : Nat} {w : World} (h : KF B p cb fb vs F m w) (hm : m ≤ m') : KF B p cb fb vs F m' w := by
  obtain ⟨lv, lg, hf, hl, hB⟩ := h
  exact ⟨lv, lg, hf, Nat.le_trans hl hm, hB⟩
end Go.Proofs.Ytonjbofdmmnpdaa
