/- client.Check and the reference: the kinds that are none. -/
import Derived.Test.YtgbmipglahebpaaCheckA
namespace Go.Proofs.Ytgbmipglahebpaa
open Go.RowKit
set_option linter.unusedVariables false
set_option linter.unusedSimpArgs false

section
variable (k sl a n i g : Int) (tx : ByteArray) (w : World)
set_option maxRecDepth 100000 in
set_option maxHeartbeats 4000000 in
theorem chkc_z (hk : k < 1 ∨ 16 < k) :
    Calls Try.prog 10 #[.agg #[.int .u8 k, .int .i64 sl, .int .i64 a, .int .i64 n, .int .u32 i, .int .u8 g, .string tx]] w fun e w' => e = .returned (.int .i64 2) ∧ Below w.heap.size w w' := by
  have y1 : (k == 1) = false := by rw [beq_eq_false_iff_ne]; omega
  have y2 : (k == 2) = false := by rw [beq_eq_false_iff_ne]; omega
  have y3 : (k == 3) = false := by rw [beq_eq_false_iff_ne]; omega
  have y4 : (k == 4) = false := by rw [beq_eq_false_iff_ne]; omega
  have y5 : (k == 5) = false := by rw [beq_eq_false_iff_ne]; omega
  have y6 : (k == 6) = false := by rw [beq_eq_false_iff_ne]; omega
  have y7 : (k == 7) = false := by rw [beq_eq_false_iff_ne]; omega
  have y8 : (k == 8) = false := by rw [beq_eq_false_iff_ne]; omega
  have y9 : (k == 9) = false := by rw [beq_eq_false_iff_ne]; omega
  have y10 : (k == 10) = false := by rw [beq_eq_false_iff_ne]; omega
  have y11 : (k == 11) = false := by rw [beq_eq_false_iff_ne]; omega
  have y12 : (k == 12) = false := by rw [beq_eq_false_iff_ne]; omega
  have y13 : (k == 13) = false := by rw [beq_eq_false_iff_ne]; omega
  have y14 : (k == 14) = false := by rw [beq_eq_false_iff_ne]; omega
  have y15 : (k == 15) = false := by rw [beq_eq_false_iff_ne]; omega
  have y16 : (k == 16) = false := by rw [beq_eq_false_iff_ne]; omega
  clear hk
  go_enter Try.func10, Try.ntmps10
  go_wp2_with fail
  all_goals (go_ret; exact ⟨by first | rfl | trivial, (by repeat' (first | exact Below.refl _ _ | (refine Below.drew ?_) | (refine Below.setCell ?_ (by first | (simp; done) | (simp; omega)) _) | (refine Below.alloc ?_ (by first | (simp; done) | (simp; omega)) _)))⟩)
set_option maxRecDepth 100000 in
set_option maxHeartbeats 4000000 in
theorem chkr_z (hk : k < 1 ∨ 16 < k) :
    Calls Try.prog 11 #[.agg #[.int .u8 k, .int .i64 sl, .int .i64 a, .int .i64 n, .int .u32 i, .int .u8 g, .string tx]] w fun e w' => e = .returned (.int .i64 2) ∧ Below w.heap.size w w' := by
  rcases hk with hk | hk
  · have y1 : decide (k < 1) = true := decide_eq_true hk
    go_enter Try.func11, Try.ntmps11
    go_wp2_with fail
    all_goals (go_ret; exact ⟨by first | rfl | trivial, (by repeat' (first | exact Below.refl _ _ | (refine Below.drew ?_) | (refine Below.setCell ?_ (by first | (simp; done) | (simp; omega)) _) | (refine Below.alloc ?_ (by first | (simp; done) | (simp; omega)) _)))⟩)
  · have y1 : decide (k < 1) = false := decide_eq_false (by omega)
    have y2 : decide (16 < k) = true := decide_eq_true hk
    go_enter Try.func11, Try.ntmps11
    go_wp2_with fail
    all_goals (go_ret; exact ⟨by first | rfl | trivial, (by repeat' (first | exact Below.refl _ _ | (refine Below.drew ?_) | (refine Below.setCell ?_ (by first | (simp; done) | (simp; omega)) _) | (refine Below.alloc ?_ (by first | (simp; done) | (simp; omega)) _)))⟩)
end
end Go.Proofs.Ytgbmipglahebpaa
