/- client.Check and the reference: kind 14. -/
import Derived.Test.YtgbmipglahebpaaCheckA
namespace Go.Proofs.Ytgbmipglahebpaa
open Go.RowKit
set_option linter.unusedVariables false
set_option linter.unusedSimpArgs false

noncomputable def ck14 (sl a n i g : Int) (tx : ByteArray) : Int := if sl ≠ 0 ∨ a ≠ 0 ∨ n ≠ 0 ∨ i ≠ 0 ∨ g ≠ 0 ∨ tx.toList ≠ [] then 2 else if 256 < tx.size then 5 else if vdB (bs tx) = true then 0 else 11
set_option maxRecDepth 100000 in
theorem uses_14 (w : World) : Calls Try.prog 15 #[.int .u8 14] w fun e w' => e = .returned (.agg #[.bool false, .bool false, .bool false, .bool false, .bool false, .bool false]) ∧ ∃ o, w' = w.alloc o := by
  go_enter Try.func15, Try.ntmps15
  go_wp2_with fail
  have hres : Try.f15.results = #[.cell 2 41] := by kernel_rfl
  refine ⟨rfl, _, ?_, rfl, _, rfl⟩
  simp only [results, hres]
  go_simp

set_option maxRecDepth 100000 in
set_option maxHeartbeats 4000000 in
theorem chkc_14 (sl a n i g : Int) (tx : ByteArray) (w : World) (hs : tx.size ≤ 1000000) :
    Calls Try.prog 10 #[.agg #[.int .u8 14, .int .i64 sl, .int .i64 a, .int .i64 n, .int .u32 i, .int .u8 g, .string tx]] w fun e w' => e = .returned (.int .i64 (ck14 sl a n i g tx)) ∧ Below w.heap.size w w' := by
  by_cases h0 : sl ≠ 0
  · have HQ := hid (show ck14 sl a n i g tx = 2 from if_pos (.inl h0))
    have z1 : ¬ ((0 : Int) = sl) := fun e => h0 e.symm
    have z2 : (sl == 0) = false := by rw [beq_eq_false_iff_ne]; exact h0
    have z3 : (sl != 0) = true := by rw [bne_iff_ne]; exact h0
    have z4 : ((0 : Int) == sl) = false := by rw [beq_eq_false_iff_ne]; exact z1
    rw [HQ.out]
    go_enter Try.func10, Try.ntmps10
    go_wp2_with fail
    all_goals (go_ret; exact ⟨by first | rfl | trivial, (by repeat' (first | exact Below.refl _ _ | (refine Below.drew ?_) | (refine Below.setCell ?_ (by first | (simp; done) | (simp; omega)) _) | (refine Below.alloc ?_ (by first | (simp; done) | (simp; omega)) _)))⟩)
  by_cases h1 : a ≠ 0
  · have HQ := hid (show ck14 sl a n i g tx = 2 from if_pos (.inr (.inl h1)))
    have z1 : ¬ ((0 : Int) = a) := fun e => h1 e.symm
    have z2 : (a == 0) = false := by rw [beq_eq_false_iff_ne]; exact h1
    have z3 : (a != 0) = true := by rw [bne_iff_ne]; exact h1
    have z4 : ((0 : Int) == a) = false := by rw [beq_eq_false_iff_ne]; exact z1
    rw [HQ.out]
    go_enter Try.func10, Try.ntmps10
    go_wp2_with fail
    all_goals (go_ret; exact ⟨by first | rfl | trivial, (by repeat' (first | exact Below.refl _ _ | (refine Below.drew ?_) | (refine Below.setCell ?_ (by first | (simp; done) | (simp; omega)) _) | (refine Below.alloc ?_ (by first | (simp; done) | (simp; omega)) _)))⟩)
  by_cases h2 : n ≠ 0
  · have HQ := hid (show ck14 sl a n i g tx = 2 from if_pos (.inr (.inr (.inl h2))))
    have z1 : ¬ ((0 : Int) = n) := fun e => h2 e.symm
    have z2 : (n == 0) = false := by rw [beq_eq_false_iff_ne]; exact h2
    have z3 : (n != 0) = true := by rw [bne_iff_ne]; exact h2
    have z4 : ((0 : Int) == n) = false := by rw [beq_eq_false_iff_ne]; exact z1
    rw [HQ.out]
    go_enter Try.func10, Try.ntmps10
    go_wp2_with fail
    all_goals (go_ret; exact ⟨by first | rfl | trivial, (by repeat' (first | exact Below.refl _ _ | (refine Below.drew ?_) | (refine Below.setCell ?_ (by first | (simp; done) | (simp; omega)) _) | (refine Below.alloc ?_ (by first | (simp; done) | (simp; omega)) _)))⟩)
  by_cases h3 : i ≠ 0
  · have HQ := hid (show ck14 sl a n i g tx = 2 from if_pos (.inr (.inr (.inr (.inl h3)))))
    have z1 : ¬ ((0 : Int) = i) := fun e => h3 e.symm
    have z2 : (i == 0) = false := by rw [beq_eq_false_iff_ne]; exact h3
    have z3 : (i != 0) = true := by rw [bne_iff_ne]; exact h3
    have z4 : ((0 : Int) == i) = false := by rw [beq_eq_false_iff_ne]; exact z1
    rw [HQ.out]
    go_enter Try.func10, Try.ntmps10
    go_wp2_with fail
    all_goals (go_ret; exact ⟨by first | rfl | trivial, (by repeat' (first | exact Below.refl _ _ | (refine Below.drew ?_) | (refine Below.setCell ?_ (by first | (simp; done) | (simp; omega)) _) | (refine Below.alloc ?_ (by first | (simp; done) | (simp; omega)) _)))⟩)
  by_cases h4 : g ≠ 0
  · have HQ := hid (show ck14 sl a n i g tx = 2 from if_pos (.inr (.inr (.inr (.inr (.inl h4))))))
    have z1 : ¬ ((0 : Int) = g) := fun e => h4 e.symm
    have z2 : (g == 0) = false := by rw [beq_eq_false_iff_ne]; exact h4
    have z3 : (g != 0) = true := by rw [bne_iff_ne]; exact h4
    have z4 : ((0 : Int) == g) = false := by rw [beq_eq_false_iff_ne]; exact z1
    rw [HQ.out]
    go_enter Try.func10, Try.ntmps10
    go_wp2_with fail
    all_goals (go_ret; exact ⟨by first | rfl | trivial, (by repeat' (first | exact Below.refl _ _ | (refine Below.drew ?_) | (refine Below.setCell ?_ (by first | (simp; done) | (simp; omega)) _) | (refine Below.alloc ?_ (by first | (simp; done) | (simp; omega)) _)))⟩)
  by_cases h5 : tx.toList ≠ []
  · have HQ := hid (show ck14 sl a n i g tx = 2 from if_pos (.inr (.inr (.inr (.inr (.inr h5))))))
    have t1 : ¬ ([] = tx.toList) := fun e => h5 e.symm
    have t2 : ¬ (tx.toList = []) := h5
    have t3 : tx.toList.isEmpty = false := nil_not h5
    rw [HQ.out]
    go_enter Try.func10, Try.ntmps10
    go_wp2_with fail
    all_goals (go_ret; exact ⟨by first | rfl | trivial, (by repeat' (first | exact Below.refl _ _ | (refine Below.drew ?_) | (refine Below.setCell ?_ (by first | (simp; done) | (simp; omega)) _) | (refine Below.alloc ?_ (by first | (simp; done) | (simp; omega)) _)))⟩)
  have hnone : ¬ (sl ≠ 0 ∨ a ≠ 0 ∨ n ≠ 0 ∨ i ≠ 0 ∨ g ≠ 0 ∨ tx.toList ≠ []) := by
    rintro (e | e | e | e | e | e) <;> first | exact h0 e | exact h1 e | exact h2 e | exact h3 e | exact h4 e | exact h5 e
  have hE : ck14 sl a n i g tx = if 256 < tx.size then 5 else if vdB (bs tx) = true then 0 else 11 := if_neg hnone
  rw [hE]
  clear hE hnone
  obtain rfl : sl = 0 := Classical.not_not.1 h0
  obtain rfl : a = 0 := Classical.not_not.1 h1
  obtain rfl : n = 0 := Classical.not_not.1 h2
  obtain rfl : i = 0 := Classical.not_not.1 h3
  obtain rfl : g = 0 := Classical.not_not.1 h4
  obtain rfl := nil_text (Classical.not_not.1 h5)
  rw [if_neg (by decide)]
  by_cases hv : vdB (bs ⟨#[]⟩) = true
  · have Hv := hid hv
    rw [if_pos hv]
    clear hv
    go_enter Try.func10, Try.ntmps10
    go_wp2_with fail
    refine (valid_any _ _ (by first | exact hs | decide)).mono ?_
    rintro e w1 ⟨rfl, hb⟩
    rw [Hv.out]
    have hx : ∀ W, Below w.heap.size w W → Below W.heap.size W w1 → Below w.heap.size w w1 := fun W h1 h2 => h1.trans (h2.mono h1.size)
    have hb1 : Below w.heap.size w w1 := by
      refine hx _ ?_ hb
      exact (by repeat' (first | exact Below.refl _ _ | (refine Below.drew ?_) | (refine Below.setCell ?_ (by first | (simp; done) | (simp; omega)) _) | (refine Below.alloc ?_ (by first | (simp; done) | (simp; omega)) _)))
    clear hx hb
    go_wp2_with fail
    all_goals (go_ret; exact ⟨by first | rfl | trivial, hb1⟩)
  · have Hv := hid (show vdB (bs ⟨#[]⟩) = false by simpa using hv)
    rw [if_neg hv]
    clear hv
    go_enter Try.func10, Try.ntmps10
    go_wp2_with fail
    refine (valid_any _ _ (by first | exact hs | decide)).mono ?_
    rintro e w1 ⟨rfl, hb⟩
    rw [Hv.out]
    have hx : ∀ W, Below w.heap.size w W → Below W.heap.size W w1 → Below w.heap.size w w1 := fun W h1 h2 => h1.trans (h2.mono h1.size)
    have hb1 : Below w.heap.size w w1 := by
      refine hx _ ?_ hb
      exact (by repeat' (first | exact Below.refl _ _ | (refine Below.drew ?_) | (refine Below.setCell ?_ (by first | (simp; done) | (simp; omega)) _) | (refine Below.alloc ?_ (by first | (simp; done) | (simp; omega)) _)))
    clear hx hb
    go_wp2_with fail
    all_goals (go_ret; exact ⟨by first | rfl | trivial, hb1⟩)

set_option maxRecDepth 100000 in
set_option maxHeartbeats 4000000 in
theorem chkr_14 (sl a n i g : Int) (tx : ByteArray) (w : World) (hs : tx.size ≤ 1000000) :
    Calls Try.prog 11 #[.agg #[.int .u8 14, .int .i64 sl, .int .i64 a, .int .i64 n, .int .u32 i, .int .u8 g, .string tx]] w fun e w' => e = .returned (.int .i64 (ck14 sl a n i g tx)) ∧ Below w.heap.size w w' := by
  by_cases h0 : sl ≠ 0
  · have HQ := hid (show ck14 sl a n i g tx = 2 from if_pos (.inl h0))
    have z1 : ¬ ((0 : Int) = sl) := fun e => h0 e.symm
    have z2 : (sl == 0) = false := by rw [beq_eq_false_iff_ne]; exact h0
    have z3 : (sl != 0) = true := by rw [bne_iff_ne]; exact h0
    have z4 : ((0 : Int) == sl) = false := by rw [beq_eq_false_iff_ne]; exact z1
    rw [HQ.out]
    go_enter Try.func11, Try.ntmps11
    go_wp2_with fail
    refine (uses_14 _).mono ?_
    rintro e wu ⟨rfl, ou, rfl⟩
    go_wp2_with fail
    all_goals (go_ret; exact ⟨by first | rfl | trivial, (by repeat' (first | exact Below.refl _ _ | (refine Below.drew ?_) | (refine Below.setCell ?_ (by first | (simp; done) | (simp; omega)) _) | (refine Below.alloc ?_ (by first | (simp; done) | (simp; omega)) _)))⟩)
  by_cases h1 : a ≠ 0
  · have HQ := hid (show ck14 sl a n i g tx = 2 from if_pos (.inr (.inl h1)))
    have z1 : ¬ ((0 : Int) = a) := fun e => h1 e.symm
    have z2 : (a == 0) = false := by rw [beq_eq_false_iff_ne]; exact h1
    have z3 : (a != 0) = true := by rw [bne_iff_ne]; exact h1
    have z4 : ((0 : Int) == a) = false := by rw [beq_eq_false_iff_ne]; exact z1
    rw [HQ.out]
    go_enter Try.func11, Try.ntmps11
    go_wp2_with fail
    refine (uses_14 _).mono ?_
    rintro e wu ⟨rfl, ou, rfl⟩
    go_wp2_with fail
    all_goals (go_ret; exact ⟨by first | rfl | trivial, (by repeat' (first | exact Below.refl _ _ | (refine Below.drew ?_) | (refine Below.setCell ?_ (by first | (simp; done) | (simp; omega)) _) | (refine Below.alloc ?_ (by first | (simp; done) | (simp; omega)) _)))⟩)
  by_cases h2 : n ≠ 0
  · have HQ := hid (show ck14 sl a n i g tx = 2 from if_pos (.inr (.inr (.inl h2))))
    have z1 : ¬ ((0 : Int) = n) := fun e => h2 e.symm
    have z2 : (n == 0) = false := by rw [beq_eq_false_iff_ne]; exact h2
    have z3 : (n != 0) = true := by rw [bne_iff_ne]; exact h2
    have z4 : ((0 : Int) == n) = false := by rw [beq_eq_false_iff_ne]; exact z1
    rw [HQ.out]
    go_enter Try.func11, Try.ntmps11
    go_wp2_with fail
    refine (uses_14 _).mono ?_
    rintro e wu ⟨rfl, ou, rfl⟩
    go_wp2_with fail
    all_goals (go_ret; exact ⟨by first | rfl | trivial, (by repeat' (first | exact Below.refl _ _ | (refine Below.drew ?_) | (refine Below.setCell ?_ (by first | (simp; done) | (simp; omega)) _) | (refine Below.alloc ?_ (by first | (simp; done) | (simp; omega)) _)))⟩)
  by_cases h3 : i ≠ 0
  · have HQ := hid (show ck14 sl a n i g tx = 2 from if_pos (.inr (.inr (.inr (.inl h3)))))
    have z1 : ¬ ((0 : Int) = i) := fun e => h3 e.symm
    have z2 : (i == 0) = false := by rw [beq_eq_false_iff_ne]; exact h3
    have z3 : (i != 0) = true := by rw [bne_iff_ne]; exact h3
    have z4 : ((0 : Int) == i) = false := by rw [beq_eq_false_iff_ne]; exact z1
    rw [HQ.out]
    go_enter Try.func11, Try.ntmps11
    go_wp2_with fail
    refine (uses_14 _).mono ?_
    rintro e wu ⟨rfl, ou, rfl⟩
    go_wp2_with fail
    all_goals (go_ret; exact ⟨by first | rfl | trivial, (by repeat' (first | exact Below.refl _ _ | (refine Below.drew ?_) | (refine Below.setCell ?_ (by first | (simp; done) | (simp; omega)) _) | (refine Below.alloc ?_ (by first | (simp; done) | (simp; omega)) _)))⟩)
  by_cases h4 : g ≠ 0
  · have HQ := hid (show ck14 sl a n i g tx = 2 from if_pos (.inr (.inr (.inr (.inr (.inl h4))))))
    have z1 : ¬ ((0 : Int) = g) := fun e => h4 e.symm
    have z2 : (g == 0) = false := by rw [beq_eq_false_iff_ne]; exact h4
    have z3 : (g != 0) = true := by rw [bne_iff_ne]; exact h4
    have z4 : ((0 : Int) == g) = false := by rw [beq_eq_false_iff_ne]; exact z1
    rw [HQ.out]
    go_enter Try.func11, Try.ntmps11
    go_wp2_with fail
    refine (uses_14 _).mono ?_
    rintro e wu ⟨rfl, ou, rfl⟩
    go_wp2_with fail
    all_goals (go_ret; exact ⟨by first | rfl | trivial, (by repeat' (first | exact Below.refl _ _ | (refine Below.drew ?_) | (refine Below.setCell ?_ (by first | (simp; done) | (simp; omega)) _) | (refine Below.alloc ?_ (by first | (simp; done) | (simp; omega)) _)))⟩)
  by_cases h5 : tx.toList ≠ []
  · have HQ := hid (show ck14 sl a n i g tx = 2 from if_pos (.inr (.inr (.inr (.inr (.inr h5))))))
    have t1 : ¬ ([] = tx.toList) := fun e => h5 e.symm
    have t2 : ¬ (tx.toList = []) := h5
    have t3 : tx.toList.isEmpty = false := nil_not h5
    rw [HQ.out]
    go_enter Try.func11, Try.ntmps11
    go_wp2_with fail
    refine (uses_14 _).mono ?_
    rintro e wu ⟨rfl, ou, rfl⟩
    go_wp2_with fail
    all_goals (go_ret; exact ⟨by first | rfl | trivial, (by repeat' (first | exact Below.refl _ _ | (refine Below.drew ?_) | (refine Below.setCell ?_ (by first | (simp; done) | (simp; omega)) _) | (refine Below.alloc ?_ (by first | (simp; done) | (simp; omega)) _)))⟩)
  have hnone : ¬ (sl ≠ 0 ∨ a ≠ 0 ∨ n ≠ 0 ∨ i ≠ 0 ∨ g ≠ 0 ∨ tx.toList ≠ []) := by
    rintro (e | e | e | e | e | e) <;> first | exact h0 e | exact h1 e | exact h2 e | exact h3 e | exact h4 e | exact h5 e
  have hE : ck14 sl a n i g tx = if 256 < tx.size then 5 else if vdB (bs tx) = true then 0 else 11 := if_neg hnone
  rw [hE]
  clear hE hnone
  obtain rfl : sl = 0 := Classical.not_not.1 h0
  obtain rfl : a = 0 := Classical.not_not.1 h1
  obtain rfl : n = 0 := Classical.not_not.1 h2
  obtain rfl : i = 0 := Classical.not_not.1 h3
  obtain rfl : g = 0 := Classical.not_not.1 h4
  obtain rfl := nil_text (Classical.not_not.1 h5)
  rw [if_neg (by decide)]
  by_cases hv : vdB (bs ⟨#[]⟩) = true
  · have Hv := hid hv
    rw [if_pos hv]
    clear hv
    go_enter Try.func11, Try.ntmps11
    go_wp2_with fail
    refine (uses_14 _).mono ?_
    rintro e wu ⟨rfl, ou, rfl⟩
    go_wp2_with fail
    refine (rvalid_any _ _ (by first | exact hs | decide)).mono ?_
    rintro e w1 ⟨rfl, hb⟩
    rw [Hv.out]
    have hx : ∀ W, Below w.heap.size w W → Below W.heap.size W w1 → Below w.heap.size w w1 := fun W h1 h2 => h1.trans (h2.mono h1.size)
    have hb1 : Below w.heap.size w w1 := by
      refine hx _ ?_ hb
      exact (by repeat' (first | exact Below.refl _ _ | (refine Below.drew ?_) | (refine Below.setCell ?_ (by first | (simp; done) | (simp; omega)) _) | (refine Below.alloc ?_ (by first | (simp; done) | (simp; omega)) _)))
    clear hx hb
    go_wp2_with fail
    all_goals (go_ret; exact ⟨by first | rfl | trivial, hb1⟩)
  · have Hv := hid (show vdB (bs ⟨#[]⟩) = false by simpa using hv)
    rw [if_neg hv]
    clear hv
    go_enter Try.func11, Try.ntmps11
    go_wp2_with fail
    refine (uses_14 _).mono ?_
    rintro e wu ⟨rfl, ou, rfl⟩
    go_wp2_with fail
    refine (rvalid_any _ _ (by first | exact hs | decide)).mono ?_
    rintro e w1 ⟨rfl, hb⟩
    rw [Hv.out]
    have hx : ∀ W, Below w.heap.size w W → Below W.heap.size W w1 → Below w.heap.size w w1 := fun W h1 h2 => h1.trans (h2.mono h1.size)
    have hb1 : Below w.heap.size w w1 := by
      refine hx _ ?_ hb
      exact (by repeat' (first | exact Below.refl _ _ | (refine Below.drew ?_) | (refine Below.setCell ?_ (by first | (simp; done) | (simp; omega)) _) | (refine Below.alloc ?_ (by first | (simp; done) | (simp; omega)) _)))
    clear hx hb
    go_wp2_with fail
    all_goals (go_ret; exact ⟨by first | rfl | trivial, hb1⟩)
end Go.Proofs.Ytgbmipglahebpaa
