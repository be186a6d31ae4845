/- The feed: the chapter's examples hold. -/
import Derived.Test.YtonjbofdmmnpdaaFeedG
namespace Go.Proofs.Ytonjbofdmmnpdaa
open Go.RowKit
set_option linter.unusedVariables false
set_option linter.unusedSimpArgs false

theorem KF.drewN {B p cb fb : Nat} {vs : List Int} {F : Fd} {m : Nat} {w : World} (h : KF B p cb fb vs F m w) (n : Nat) : KF B p cb fb vs F m (w.drewN n) := by
  obtain ⟨lv, lg, hf, hl, hB⟩ := h
  exact ⟨lv, lg, hf.keep ((Ch.refl _ w).drewN n), hl, hB⟩
theorem KF.keep {B p cb fb : Nat} {vs : List Int} {F : Fd} {m : Nat} {w w' : World} (h : KF B p cb fb vs F m w) (c : Ch (fun _ => False) w w') : KF B p cb fb vs F m w' := by
  obtain ⟨lv, lg, hf, hl, hB⟩ := h
  exact ⟨lv, lg, hf.keep c, hl, Nat.le_trans hB c.size⟩
theorem row_words {w : World} {B n : Nat} {v : Value} {xs : List Int} (h : w.ownsRow B 35 1 v n (xs.map (Value.int .u64))) (hn : xs.length = n) : ∃ a cap, v = .slice a n cap ∧ n ≤ cap ∧ SameWords w a n xs := by
  obtain ⟨a, cap, rfl, hc⟩ := own_slice h
  refine ⟨a, cap, rfl, hc, hn, fun h0 => ?_⟩
  obtain ⟨g, cap', hv, _, _, _, _⟩ := own_form h h0
  injection hv with e1 e2 e3
  subst e1
  refine ⟨g, 0, rfl, fun i hi => ?_⟩
  rw [Nat.zero_add]
  have := h.cells (g := g) rfl i (.int .u64 (lk xs i)) (by simp [lk, hn, hi])
  rw [addr_add0] at this
  exact this

set_option maxRecDepth 100000 in
set_option maxHeartbeats 2000000 in
theorem known_any (w : World) : Calls Try.prog 13 #[] w fun e w' => e = .returned (.bool true) ∧ Below w.heap.size w w' := by
  go_enter Try.func13, Try.ntmps13
  go_wp2_with fail
  refine (new_ok w.heap.size 5 (by decide) (by decide) w (Nat.le_refl _)).mono ?_
  rintro e w1 ⟨p, cb, rfl, hbank, hc1, hp1, hcb1⟩
  have hbel1 := hc1.below (B := w.heap.size) (Nat.le_refl _) (fun _ h => h.elim)
  go_wp2_with fail
  refine (fnew_ok w.heap.size p cb (.slice none 0 0) ⟨List.replicate 5 0, []⟩ w1 0 1 hbank (by decide) (by decide) (by decide) (fun j _ hj => by
    have : j = 0 ∨ j = 1 ∨ j = 2 ∨ j = 3 ∨ j = 4 := by omega
    rcases this with rfl | rfl | rfl | rfl | rfl <;> rfl)).mono ?_
  rintro e w2 ⟨fb, rfl, hfd, hc2, hfb⟩
  have hbel2 := hbel1.trans (hc2.below hbel1.size (fun _ h => h.elim))
  have h2 : KF w.heap.size p cb fb [0, 0, 0, 0, 0] ⟨0, 1, 0, false, false⟩ 0 w2 := ⟨_, [], ⟨hbank.ch hc2 id id (fun _ _ => id), hfd, ⟨by decide, by decide, by decide⟩, by have := hbel1.size; omega⟩, by simp, hbel2.size⟩
  have H2 := hid h2
  clear h2 hbank hfd hc1 hc2
  go_wp2_with fail
  refine (k_p3 _ _ _ _ _ H2.out).mono ?_
  rintro e w3 ⟨rfl, h3, hb3⟩
  have hbel3 := hbel2.trans hb3
  have H3 := hid h3
  clear h3 hb3
  go_wp2_with fail
  obtain ⟨lv, lg, hf3, hl3, hB3⟩ := H3.out
  refine (fact_ok _ _ _ _ _ _ _ _ hf3 0 ⟨by decide, by decide⟩ (by show lg.length < _; omega) hB3 rfl).mono ?_
  rintro e w4 ⟨rfl, lv4, hf4, hc4, hy4⟩
  have hb4 : Below w.heap.size w3 w4 := hc4.below hB3 (fun k e => by
    rcases e with e | e | e
    · rw [e]; exact hf3.b.bp
    · rw [e]; exact hf3.b.bc
    · exact (hf3.b.hl.lt k e).1)
  have hbel4 := hbel3.trans hb4
  have h4 : KF w.heap.size p cb fb [1, 0, 0, 0, 0] ⟨0, 1, 3, false, false⟩ 10 w4 := ⟨lv4, _, hf4, by show (BS.store ⟨[0, 0, 0, 0, 0], lg⟩ 0 0 1).lg.length ≤ 10; rw [store_lg]; show lg.length + 1 ≤ 10; omega, hbel4.size⟩
  have H4 := hid h4
  clear h4 hf4 hc4 hb4 hf3 hl3 hB3 hy4
  go_wp2_with fail
  obtain ⟨lv5, lg5, hf5, hl5, hB5⟩ := H4.out
  refine (fact_have _ _ _ _ _ _ _ _ hf5 0 ⟨by decide, by decide⟩ (show ((1 : Int) ≠ 0) by decide)).mono ?_
  rintro e w5 ⟨rfl, rfl⟩
  clear hf5 hl5 hB5
  go_wp2_with fail
  refine (k_p4 _ _ _ _ _ H4.out).mono ?_
  rintro e w6 ⟨rfl, h6, hb6⟩
  have hbel6 := hbel4.trans hb6
  have H6 := hid (h6.mono (show 10 + 5 ≤ 20 by decide))
  clear h6 hb6
  go_wp2_with fail
  refine (k_p5 _ _ _ _ _ H6.out).mono ?_
  rintro e w7 ⟨rfl, h7, hb7⟩
  have hbel7 := hbel6.trans hb7
  have H7 := hid (h7.mono (show 20 + 4 ≤ 30 by decide))
  clear h7 hb7
  go_wp2_with fail
  refine (k_p6 _ _ _ _ _ H7.out).mono ?_
  rintro e w8 ⟨rfl, h8, hb8⟩
  have hbel8 := hbel7.trans hb8
  have H8 := hid (h8.mono (show 30 + 3 ≤ 40 by decide))
  clear h8 hb8
  go_wp2_with fail
  obtain ⟨lv9, lg9, hf9, hl9, hB9⟩ := H8.out
  refine (flag_any _ _ _ _ _ _ _ _ hf9).mono ?_
  rintro e w9 ⟨rfl, rfl⟩
  rw [show cLag ⟨[1, 6, 0, 1, 4], lg9⟩ ⟨0, 1, 6, false, false⟩ = 6 from rfl]
  go_wp2_with fail
  refine (flist_any _ _ _ _ _ _ _ _ hf9 0 1 rfl rfl (by decide) (by decide)).mono ?_
  rintro e w10 ⟨v, rfl, hrow, hc10⟩
  rw [show flist ⟨[1, 6, 0, 1, 4], lg9⟩ ⟨0, 1, 6, false, false⟩ = [4] from rfl] at hrow
  obtain ⟨a10, cap10, rfl, hcap, hsame⟩ := row_words hrow rfl
  have hbel10 := hbel8.trans (hc10.below hbel8.size (fun _ h => h.elim))
  have H10 := hid (H8.out.keep hc10)
  have Hr10 := hid hrow
  clear hf9 hl9 hB9 hrow hc10 hsame
  go_wp2_with fail
  have hs11 : SameWords (w10.alloc (.cells #[.int .u64 4] 35)) a10 1 [4] := by
    obtain ⟨a', cap', hv, _, hs⟩ := row_words (((Ch.refl (fun _ => False) w10).alloc (.cells #[.int .u64 4] 35)).own Hr10.out (fun _ _ => id)) rfl
    injection hv with e1 e2 e3
    rw [e1]; exact hs
  have hs12 : SameWords (w10.alloc (.cells #[.int .u64 4] 35)) (some ⟨w10.heap.size, 0, none⟩) 1 [4] := ⟨rfl, fun _ => ⟨w10.heap.size, 0, rfl, fun i hi => by
    obtain rfl : i = 0 := by omega
    exact (Blk.new w10 35 #[.int .u64 4]).cell 0⟩⟩
  refine (eqWords_any _ _ _ _ _ _ _ _ _ hs11 hs12 (by decide)).mono ?_
  rintro e w11 ⟨rfl, n11, rfl⟩
  rw [show decide (([4] : List Int) = [4]) = true from rfl]
  have hc11 : Ch (fun _ => False) w10 ((w10.alloc (.cells #[.int .u64 4] 35)).drewN n11) := ((Ch.refl _ w10).alloc _).drewN n11
  have hbel11 := hbel10.trans (hc11.below hbel10.size (fun _ h => h.elim))
  have H11 := hid (H10.out.keep hc11)
  clear hs11 hs12 hc11
  go_wp2_with fail
  refine (k_r0 _ _ _ _ _ H11.out).mono ?_
  rintro e w12 ⟨rfl, h12, hb12⟩
  have hbel12 := hbel11.trans hb12
  have H12 := hid (h12.mono (show 40 + 4 ≤ 50 by decide))
  clear h12 hb12
  go_wp2_with fail
  refine (k_r4 _ _ _ _ _ H12.out).mono ?_
  rintro e w13 ⟨rfl, h13, hb13⟩
  have hbel13 := hbel12.trans hb13
  have H13 := hid (h13.mono (show 50 + 3 ≤ 60 by decide))
  clear h13 hb13
  go_wp2_with fail
  refine (k_r6 _ _ _ _ _ H13.out).mono ?_
  rintro e w14 ⟨rfl, h14, hb14⟩
  have hbel14 := hbel13.trans hb14
  have H14 := hid h14
  clear h14 hb14
  go_wp2_with fail
  obtain ⟨lv15, lg15, hf15, hl15, hB15⟩ := H14.out
  refine (fpush_arg _ _ _ _ _ _ _ _ hf15 1 6 (.inr (by decide))).mono ?_
  rintro e w15 ⟨rfl, rfl⟩
  clear hf15 hl15 hB15
  go_wp2_with fail
  go_ret
  exact ⟨by first | rfl | simp, hbel14⟩
end Go.Proofs.Ytonjbofdmmnpdaa
