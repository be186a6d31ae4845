/- ClientChecks: the walk. -/
import Derived.Test.YtgbmipglahebpaaCk1
import Derived.Test.YtgbmipglahebpaaCk2
import Derived.Test.YtgbmipglahebpaaCk3
import Derived.Test.YtgbmipglahebpaaCk4
import Derived.Test.YtgbmipglahebpaaCk5
import Derived.Test.YtgbmipglahebpaaCk6
import Derived.Test.YtgbmipglahebpaaCk7
import Derived.Test.YtgbmipglahebpaaCk8
import Derived.Test.YtgbmipglahebpaaCk9
import Derived.Test.YtgbmipglahebpaaCk10
import Derived.Test.YtgbmipglahebpaaCk11
import Derived.Test.YtgbmipglahebpaaCk12
import Derived.Test.YtgbmipglahebpaaCk13
import Derived.Test.YtgbmipglahebpaaCk14
import Derived.Test.YtgbmipglahebpaaCk15
import Derived.Test.YtgbmipglahebpaaCk16
import Derived.Test.YtgbmipglahebpaaCkZ
import Derived.Test.YtgbmipglahebpaaFrameS
import Derived.Test.YtgbmipglahebpaaMix
namespace Go.Proofs.Ytgbmipglahebpaa
open Go.RowKit
set_option linter.unusedVariables false
set_option linter.unusedSimpArgs false

/-- Both have the same answer. -/
theorem ck_all (k sl a n i g : Int) (tx : ByteArray) (hs : tx.size ≤ 1000000) : ∃ E : Int,
    (∀ w, Calls Try.prog 10 #[.agg #[.int .u8 k, .int .i64 sl, .int .i64 a, .int .i64 n, .int .u32 i, .int .u8 g, .string tx]] w fun e w' => e = .returned (.int .i64 E) ∧ Below w.heap.size w w') ∧
    (∀ w, Calls Try.prog 11 #[.agg #[.int .u8 k, .int .i64 sl, .int .i64 a, .int .i64 n, .int .u32 i, .int .u8 g, .string tx]] w fun e w' => e = .returned (.int .i64 E) ∧ Below w.heap.size w w') := by
  by_cases hk : k < 1 ∨ 16 < k
  · exact ⟨2, fun w => chkc_z k sl a n i g tx w hk, fun w => chkr_z k sl a n i g tx w hk⟩
  have h16 : k = 1 ∨ k = 2 ∨ k = 3 ∨ k = 4 ∨ k = 5 ∨ k = 6 ∨ k = 7 ∨ k = 8 ∨ k = 9 ∨ k = 10 ∨ k = 11 ∨ k = 12 ∨ k = 13 ∨ k = 14 ∨ k = 15 ∨ k = 16 := by omega
  clear hk
  rcases h16 with rfl | rfl | rfl | rfl | rfl | rfl | rfl | rfl | rfl | rfl | rfl | rfl | rfl | rfl | rfl | rfl
  · exact ⟨_, fun w => chkc_1 sl a n i g tx w hs, fun w => chkr_1 sl a n i g tx w hs⟩
  · exact ⟨_, fun w => chkc_2 sl a n i g tx w hs, fun w => chkr_2 sl a n i g tx w hs⟩
  · exact ⟨_, fun w => chkc_3 sl a n i g tx w hs, fun w => chkr_3 sl a n i g tx w hs⟩
  · exact ⟨_, fun w => chkc_4 sl a n i g tx w hs, fun w => chkr_4 sl a n i g tx w hs⟩
  · exact ⟨_, fun w => chkc_5 sl a n i g tx w hs, fun w => chkr_5 sl a n i g tx w hs⟩
  · exact ⟨_, fun w => chkc_6 sl a n i g tx w hs, fun w => chkr_6 sl a n i g tx w hs⟩
  · exact ⟨_, fun w => chkc_7 sl a n i g tx w hs, fun w => chkr_7 sl a n i g tx w hs⟩
  · exact ⟨_, fun w => chkc_8 sl a n i g tx w hs, fun w => chkr_8 sl a n i g tx w hs⟩
  · exact ⟨_, fun w => chkc_9 sl a n i g tx w hs, fun w => chkr_9 sl a n i g tx w hs⟩
  · exact ⟨_, fun w => chkc_10 sl a n i g tx w hs, fun w => chkr_10 sl a n i g tx w hs⟩
  · exact ⟨_, fun w => chkc_11 sl a n i g tx w hs, fun w => chkr_11 sl a n i g tx w hs⟩
  · exact ⟨_, fun w => chkc_12 sl a n i g tx w hs, fun w => chkr_12 sl a n i g tx w hs⟩
  · exact ⟨_, fun w => chkc_13 sl a n i g tx w hs, fun w => chkr_13 sl a n i g tx w hs⟩
  · exact ⟨_, fun w => chkc_14 sl a n i g tx w hs, fun w => chkr_14 sl a n i g tx w hs⟩
  · exact ⟨_, fun w => chkc_15 sl a n i g tx w hs, fun w => chkr_15 sl a n i g tx w hs⟩
  · exact ⟨_, fun w => chkc_16 sl a n i g tx w hs, fun w => chkr_16 sl a n i g tx w hs⟩

def opKs : List (Option (Option IntKind)) := [some (some .u8), some (some .i64), some (some .i64), some (some .i64), some (some .u32), some (some .u8), none]
set_option maxRecDepth 100000 in
set_option maxHeartbeats 1000000 in
theorem walkChecks (z : List Value) (w : World) (hz : FitsS opKs z) : Calls Try.prog 5 #[.agg z.toArray] w fun e w' => e = .returned (.bool true) ∧ Below w.heap.size w w' := by
  obtain ⟨k, sl, a, n, i, g, tx, rfl, hm⟩ : ∃ k sl a n i g tx, z = [.int .u8 k, .int .i64 sl, .int .i64 a, .int .i64 n, .int .u32 i, .int .u8 g, .string tx] ∧ tx.size ≤ maxLen := by
    obtain ⟨hl, hf⟩ := hz
    obtain ⟨v0, e0, n0, rfl, _⟩ := hf 0 _ rfl
    obtain ⟨v1, e1, n1, rfl, _⟩ := hf 1 _ rfl
    obtain ⟨v2, e2, n2, rfl, _⟩ := hf 2 _ rfl
    obtain ⟨v3, e3, n3, rfl, _⟩ := hf 3 _ rfl
    obtain ⟨v4, e4, n4, rfl, _⟩ := hf 4 _ rfl
    obtain ⟨v5, e5, n5, rfl, _⟩ := hf 5 _ rfl
    obtain ⟨v6, e6, t6, rfl, h6⟩ := hf 6 _ rfl
    refine ⟨n0, n1, n2, n3, n4, n5, t6, ?_, h6⟩
    match z, hl with
    | [a, b, c, d, e, f, g], _ => simp at e0 e1 e2 e3 e4 e5 e6; simp [e0, e1, e2, e3, e4, e5, e6]
  unfold maxLen at hm
  clear hz
  have hbel0 : ∀ o, Below w.heap.size w (w.alloc o) := fun o => (Below.refl _ _).alloc (Nat.le_refl _) _
  by_cases h1 : 306 < tx.size
  · have d1 : decide ((306 : Int) < (tx.size : Int)) = true := decide_eq_true (by omega)
    go_enter Try.func5, Try.ntmps5
    go_wp2_with fail
    all_goals (go_ret; exact ⟨rfl, (by repeat' (first | exact Below.refl _ _ | (refine Below.drew ?_) | (refine Below.setCell ?_ (by first | (simp; done) | (simp; omega)) _) | (refine Below.alloc ?_ (by first | (simp; done) | (simp; omega)) _)))⟩)
  have d1 : decide ((306 : Int) < (tx.size : Int)) = false := decide_eq_false (by omega)
  obtain ⟨E, hc, hr⟩ := ck_all k sl a n i g tx (by omega)
  have hE : (E == E) = true := by simp
  have Hc := hid hc
  have Hr := hid hr
  clear hc hr
  obtain ⟨S, hS⟩ : ∃ S : Nat → Prop, ∀ k, S k ↔ k = w.heap.size := ⟨_, fun _ => Iff.rfl⟩
  have hSp : Mix.Has S w.heap.size := (hS _).2 rfl
  have HS := hid hS
  clear hS
  go_enter Try.func5, Try.ntmps5
  go_wp2_with fail
  refine Mix.wp_region_mix S (fun i => ([0, 3, 4, 2, 0, 0] : List Nat).getD i 0) [0, 2, 1, 3, 4, 5] (by kernel_rfl) (by kernel_rfl) ?_
  refine Mix.mix_world fun W hW => ?_
  have hB5 : Blk W w.heap.size 36 #[.int .u8 k, .int .i64 sl, .int .i64 a, .int .i64 n, .int .u32 i, .int .u8 g, .string tx] := by rw [hW]; exact Blk.new _ _ _
  have hb5 : Below w.heap.size w W := by rw [hW]; exact hbel0 _
  clear hW
  have q := hB5.cell
  repeat (first | (refine Mix.mix_q (by simp only [List.getElem?_toArray, List.getElem?_cons_zero, List.getElem?_cons_succ]; exact rfl) rfl ?_; go_big_quiet_step (fail); refine wpQuiet_nil ?_) | (refine Mix.mix_p (by simp only [List.getElem?_toArray, List.getElem?_cons_zero, List.getElem?_cons_succ]; exact rfl) rfl rfl ?_; go_big_quiet_step (fail); refine wpQuiet_nil ?_) | (refine Mix.mix_s (by simp only [List.getElem?_toArray, List.getElem?_cons_zero, List.getElem?_cons_succ]; exact rfl) rfl rfl ?_; go_big_quiet_step (fail); refine wpQuiet_nil ?_))
  refine Mix.mix_a (by simp only [List.getElem?_toArray, List.getElem?_cons_zero, List.getElem?_cons_succ]; exact rfl) rfl fun W6 hW6 => ?_
  obtain ⟨n1, rfl⟩ := hW6
  go_wp2_with fail
  refine (Hc.out _).mono ?_
  rintro e w7 ⟨rfl, hb7⟩
  have hk7 : Mix.Keep S W w7 := fun j hj => (hb7.block j (by have := (HS.out j).1 hj; have := hB5.lt; simp; omega)).trans rfl
  have hb7' : Below w.heap.size w w7 := (show Below w.heap.size w (W.drewN n1) from ⟨hb5.os, hb5.tape, hb5.output, hb5.size, hb5.block⟩).trans (hb7.mono hb5.size)
  clear q
  go_wp2_with fail
  refine ⟨hk7, ?_⟩
  clear hk7
  refine Mix.mix_e (by simp only [List.getElem?_toArray, List.getElem?_cons_zero, List.getElem?_cons_succ]; exact rfl) rfl fun W8 hW8 => ?_
  obtain ⟨n2, rfl⟩ := hW8
  go_wp2_with fail
  refine (Hr.out _).mono ?_
  rintro e w9 ⟨rfl, hb9⟩
  have hb9' : Below w.heap.size w w9 := (show Below w.heap.size w (w7.drewN n2) from ⟨hb7'.os, hb7'.tape, hb7'.output, hb7'.size, hb7'.block⟩).trans (hb9.mono hb7'.size)
  go_wp2_with fail
  repeat (first | (refine Mix.mix_q (by simp only [List.getElem?_toArray, List.getElem?_cons_zero, List.getElem?_cons_succ]; exact rfl) rfl ?_; go_big_quiet_step (fail); refine wpQuiet_nil ?_) | (refine Mix.mix_p (by simp only [List.getElem?_toArray, List.getElem?_cons_zero, List.getElem?_cons_succ]; exact rfl) rfl rfl ?_; go_big_quiet_step (fail); refine wpQuiet_nil ?_))
  intro n3
  go_wp2_with fail
  go_ret
  exact ⟨by first | rfl | (rw [hE]), ⟨hb9'.os, hb9'.tape, hb9'.output, hb9'.size, hb9'.block⟩⟩
end Go.Proofs.Ytgbmipglahebpaa
