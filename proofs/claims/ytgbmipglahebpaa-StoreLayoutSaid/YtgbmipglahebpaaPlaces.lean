/- StorePlaces: the walk. -/
import Derived.Test.YtgbmipglahebpaaPlaceB
import Derived.Test.YtgbmipglahebpaaFrameS
namespace Go.Proofs.Ytgbmipglahebpaa
open Go.RowKit
set_option linter.unusedVariables false

set_option maxHeartbeats 1000000 in
theorem places_ok (sl ge cl re qu ba fe : Int) (tx : ByteArray) (w : World) (hs : tx.size ≤ 300 ∨ (65536 < tx.size ∧ tx.size ≤ 65636)) (h : ckE ⟨sl, ge, cl, re, qu, ba, fe, tx⟩ = 0) :
    Calls Try.prog 3 #[.agg #[.int .i64 sl, .int .u64 ge, .int .i64 cl, .int .i64 re, .int .i64 qu, .int .i64 ba, .int .i64 fe, .string tx]] w fun e w' => e = .returned (.bool true) ∧ Below w.heap.size w w' := by
  have hm : tx.size ≤ 1000000 := by omega
  have hp := fun w => place_ok ⟨sl, ge, cl, re, qu, ba, fe, tx⟩ w hm h
  have hq := fun w => rplace_ok ⟨sl, ge, cl, re, qu, ba, fe, tx⟩ w hm h
  have hc := fun w => check_all ⟨sl, ge, cl, re, qu, ba, fe, tx⟩ w hm
  have hr := fun w => rcheck_all ⟨sl, ge, cl, re, qu, ba, fe, tx⟩ w hm
  rw [h] at hc hr
  simp only [Cf.v, layV] at hp hq hc hr
  generalize Cf.l6 ⟨sl, ge, cl, re, qu, ba, fe, tx⟩ = l6 at hp hq
  generalize Cf.l7 ⟨sl, ge, cl, re, qu, ba, fe, tx⟩ = l7 at hp hq
  generalize Cf.l8 ⟨sl, ge, cl, re, qu, ba, fe, tx⟩ = l8 at hp hq
  generalize Cf.l9 ⟨sl, ge, cl, re, qu, ba, fe, tx⟩ = l9 at hp hq
  clear h
  have HP := hid hp
  have HQ := hid hq
  have HC := hid hc
  have HR := hid hr
  clear hp hq hc hr
  obtain ⟨d0, d1, d2, d3⟩ : Hid (decide ((65636 : Int) < tx.size) = false) ∧ (decide ((300 : Int) < tx.size) = false ∨ (decide ((300 : Int) < tx.size) = true ∧ decide ((tx.size : Int) ≤ 65536) = false)) ∧ True ∧ True := ⟨hid (by simp; omega), by rcases hs with hs | hs; exact .inl (by simp; omega); exact .inr ⟨by simp; omega, by simp; omega⟩, trivial, trivial⟩
  clear d2 d3 hs
  have d0 := d0.out
  rcases d1 with d1 | ⟨d1, d2⟩
  all_goals
    go_enter Try.func3, Try.ntmps3
    go_wp2_with fail
    refine (HP.out _).mono ?_
    rintro e w1 ⟨rfl, hb1⟩
    obtain ⟨hcell, hfr⟩ := bcell hb1
    have hsz := hb1.size
    simp only [World.size_alloc] at hsz
    have hlt : w.heap.size < w1.heap.size := by omega
    have hB : Blk w1 w.heap.size 24 #[Value.int .i64 sl, .int .u64 ge, .int .i64 cl, .int .i64 re, .int .i64 qu, .int .i64 ba, .int .i64 fe, .string tx] := (hb1.block _ (by simp)).trans (Blk.new w _ _)
    go_wp2_with fail
    refine calls_world fun W1 hW1 => ?_
    have hB1 : Blk W1 w.heap.size 24 #[Value.int .i64 sl, .int .u64 ge, .int .i64 cl, .int .i64 re, .int .i64 qu, .int .i64 ba, .int .i64 fe, .string tx] := by rw [hW1]; exact hB.alloc _
    have hL1 : Blk W1 w1.heap.size 26 #[Value.int .i64 0, .int .i64 1, .int .i64 2, .int .i64 3, .int .i64 4, .int .i64 5, .int .i64 l6, .int .i64 l7, .int .i64 l8, .int .i64 l9] := by rw [hW1]; exact Blk.new w1 _ _
    have hb2 : Below w.heap.size w W1 := by rw [hW1]; exact (((Below.refl _ _).alloc (Nat.le_refl _) _).trans (hb1.mono (by simp))).alloc (by omega) _
    have hs1 : W1.heap.size = w1.heap.size + 1 := by rw [hW1]; simp
    clear hW1 hcell hfr hsz
    refine (HQ.out _).mono ?_
    rintro e w2 ⟨rfl, hb3⟩
    have hB2 : Blk w2 w.heap.size 24 #[Value.int .i64 sl, .int .u64 ge, .int .i64 cl, .int .i64 re, .int .i64 qu, .int .i64 ba, .int .i64 fe, .string tx] := (hb3.block _ hB1.lt).trans hB1
    have hL2 : Blk w2 w1.heap.size 26 #[Value.int .i64 0, .int .i64 1, .int .i64 2, .int .i64 3, .int .i64 4, .int .i64 5, .int .i64 l6, .int .i64 l7, .int .i64 l8, .int .i64 l9] := (hb3.block _ hL1.lt).trans hL1
    have hs2 := hb3.size
    rw [hs1] at hs2
    go_wp2_with fail
    obtain ⟨S, hS⟩ : ∃ S : Nat → Prop, ∀ k, S k ↔ k < w2.heap.size + 1 := ⟨_, fun _ => Iff.rfl⟩
    have hSp : Mix.Has S w.heap.size := (hS _).2 (by omega)
    have hSp1 : Mix.Has S w1.heap.size := (hS _).2 (by omega)
    have hSp2 : Mix.Has S w2.heap.size := (hS _).2 (by omega)
    have HS := hid hS
    clear hS
    refine Mix.wp_region_mix S (fun i => ([0, 3, 4, 2, 0, 0, 0, 0, 0, 0, 0, 0, 0, 0, 0, 0] : List Nat).getD i 0) [0, 2, 1, 3, 4, 5, 6, 7, 8, 9, 10, 11, 12, 13, 14, 15] (by kernel_rfl) (by kernel_rfl) ?_
    refine Mix.mix_world fun W5 hW5 => ?_
    have hB5 : Blk W5 w.heap.size 24 #[Value.int .i64 sl, .int .u64 ge, .int .i64 cl, .int .i64 re, .int .i64 qu, .int .i64 ba, .int .i64 fe, .string tx] := by rw [hW5]; exact hB2.alloc _
    have hL5 : Blk W5 w1.heap.size 26 #[Value.int .i64 0, .int .i64 1, .int .i64 2, .int .i64 3, .int .i64 4, .int .i64 5, .int .i64 l6, .int .i64 l7, .int .i64 l8, .int .i64 l9] := by rw [hW5]; exact hL2.alloc _
    have hR5 : Blk W5 w2.heap.size 26 #[Value.int .i64 0, .int .i64 1, .int .i64 2, .int .i64 3, .int .i64 4, .int .i64 5, .int .i64 l6, .int .i64 l7, .int .i64 l8, .int .i64 l9] := by rw [hW5]; exact Blk.new w2 _ _
    have hs5 : W5.heap.size = w2.heap.size + 1 := by rw [hW5]; simp
    have hb5 : Below w.heap.size w W5 := by rw [hW5]; exact (hb2.trans (hb3.mono hb2.size)).alloc (by omega) _
    clear hW5 hB hB1 hL1 hB2 hL2 hb1 hb2 hb3
    have q := hB5.cell
    repeat (first | (refine Mix.mix_q (by simp only [List.getElem?_toArray, List.getElem?_cons_zero, List.getElem?_cons_succ]; exact rfl) rfl ?_; go_big_quiet_step (fail); refine wpQuiet_nil ?_) | (refine Mix.mix_p (by simp only [List.getElem?_toArray, List.getElem?_cons_zero, List.getElem?_cons_succ]; exact rfl) rfl rfl ?_; go_big_quiet_step (fail); refine wpQuiet_nil ?_) | (refine Mix.mix_s (by simp only [List.getElem?_toArray, List.getElem?_cons_zero, List.getElem?_cons_succ]; exact rfl) rfl rfl ?_; go_big_quiet_step (fail); refine wpQuiet_nil ?_))
    refine Mix.mix_a (by simp only [List.getElem?_toArray, List.getElem?_cons_zero, List.getElem?_cons_succ]; exact rfl) rfl fun W6 hW6 => ?_
    obtain ⟨n1, rfl⟩ := hW6
    go_wp2_with fail
    refine (HC.out _).mono ?_
    rintro e w7 ⟨rfl, hb7⟩
    have hk7 : Mix.Keep S W5 w7 := fun j hj => (hb7.block j (by have := (HS.out j).1 hj; simp; omega)).trans rfl
    have hB7 : Blk w7 w.heap.size 24 #[Value.int .i64 sl, .int .u64 ge, .int .i64 cl, .int .i64 re, .int .i64 qu, .int .i64 ba, .int .i64 fe, .string tx] := (hk7 _ hSp).trans hB5
    have hL7 : Blk w7 w1.heap.size 26 #[Value.int .i64 0, .int .i64 1, .int .i64 2, .int .i64 3, .int .i64 4, .int .i64 5, .int .i64 l6, .int .i64 l7, .int .i64 l8, .int .i64 l9] := (hk7 _ hSp1).trans hL5
    have hR7 : Blk w7 w2.heap.size 26 #[Value.int .i64 0, .int .i64 1, .int .i64 2, .int .i64 3, .int .i64 4, .int .i64 5, .int .i64 l6, .int .i64 l7, .int .i64 l8, .int .i64 l9] := (hk7 _ hSp2).trans hR5
    have hb7' : Below w.heap.size w w7 := (show Below w.heap.size w (W5.drewN n1) from ⟨hb5.os, hb5.tape, hb5.output, hb5.size, hb5.block⟩).trans (hb7.mono hb5.size)
    have hs7 := hb7.size
    clear q
    go_wp2_with fail
    refine ⟨hk7, ?_⟩
    refine Mix.mix_e (by simp only [List.getElem?_toArray, List.getElem?_cons_zero, List.getElem?_cons_succ]; exact rfl) rfl fun W8 hW8 => ?_
    obtain ⟨n2, rfl⟩ := hW8
    go_wp2_with fail
    refine (HR.out _).mono ?_
    rintro e w9 ⟨rfl, hb9⟩
    have hs7' : w2.heap.size < w7.heap.size := by have := hb7.size; simp at this; omega
    have hL9 : Blk w9 w1.heap.size 26 #[Value.int .i64 0, .int .i64 1, .int .i64 2, .int .i64 3, .int .i64 4, .int .i64 5, .int .i64 l6, .int .i64 l7, .int .i64 l8, .int .i64 l9] := (hb9.block _ (by simp; omega)).trans hL7
    have hR9 : Blk w9 w2.heap.size 26 #[Value.int .i64 0, .int .i64 1, .int .i64 2, .int .i64 3, .int .i64 4, .int .i64 5, .int .i64 l6, .int .i64 l7, .int .i64 l8, .int .i64 l9] := (hb9.block _ (by simp; omega)).trans hR7
    have hb9' : Below w.heap.size w w9 := (show Below w.heap.size w (w7.drewN n2) from ⟨hb7'.os, hb7'.tape, hb7'.output, hb7'.size, hb7'.block⟩).trans (hb9.mono hb7'.size)
    have ql := hL9.cell
    have qr := hR9.cell
    go_wp2_with fail
    repeat (first | (refine Mix.mix_q (by simp only [List.getElem?_toArray, List.getElem?_cons_zero, List.getElem?_cons_succ]; exact rfl) rfl ?_; go_big_quiet_step (fail); refine wpQuiet_nil ?_) | (refine Mix.mix_p (by simp only [List.getElem?_toArray, List.getElem?_cons_zero, List.getElem?_cons_succ]; exact rfl) rfl rfl ?_; go_big_quiet_step (fail); refine wpQuiet_nil ?_) | (refine Mix.mix_s (by simp only [List.getElem?_toArray, List.getElem?_cons_zero, List.getElem?_cons_succ]; exact rfl) rfl rfl ?_; go_big_quiet_step (fail); refine wpQuiet_nil ?_))
    intro n3
    go_wp2_with fail
    go_ret
    exact ⟨by first | rfl | simp, ⟨hb9'.os, hb9'.tape, hb9'.output, hb9'.size, hb9'.block⟩⟩
set_option maxHeartbeats 1000000 in
theorem places_bad (sl ge cl re qu ba fe : Int) (tx : ByteArray) (w : World) (hs : tx.size ≤ 300 ∨ (65536 < tx.size ∧ tx.size ≤ 65636)) (h : ckE ⟨sl, ge, cl, re, qu, ba, fe, tx⟩ ≠ 0) :
    Calls Try.prog 3 #[.agg #[.int .i64 sl, .int .u64 ge, .int .i64 cl, .int .i64 re, .int .i64 qu, .int .i64 ba, .int .i64 fe, .string tx]] w fun e w' => e = .returned (.bool true) ∧ Below w.heap.size w w' := by
  have hm : tx.size ≤ 1000000 := by omega
  have hp := fun w => place_bad ⟨sl, ge, cl, re, qu, ba, fe, tx⟩ w hm h
  have hq := fun w => rplace_bad ⟨sl, ge, cl, re, qu, ba, fe, tx⟩ w hm h
  have hc := fun w => check_all ⟨sl, ge, cl, re, qu, ba, fe, tx⟩ w hm
  have hr := fun w => rcheck_all ⟨sl, ge, cl, re, qu, ba, fe, tx⟩ w hm
  generalize ckE ⟨sl, ge, cl, re, qu, ba, fe, tx⟩ = k at h hp hq hc hr
  simp only [Cf.v, layZ] at hp hq hc hr
  clear h
  have HP := hid hp
  have HQ := hid hq
  have HC := hid hc
  have HR := hid hr
  clear hp hq hc hr
  obtain ⟨d0, d1, d2, d3⟩ : Hid (decide ((65636 : Int) < tx.size) = false) ∧ (decide ((300 : Int) < tx.size) = false ∨ (decide ((300 : Int) < tx.size) = true ∧ decide ((tx.size : Int) ≤ 65536) = false)) ∧ True ∧ True := ⟨hid (by simp; omega), by rcases hs with hs | hs; exact .inl (by simp; omega); exact .inr ⟨by simp; omega, by simp; omega⟩, trivial, trivial⟩
  clear d2 d3 hs
  have d0 := d0.out
  rcases d1 with d1 | ⟨d1, d2⟩
  all_goals
    go_enter Try.func3, Try.ntmps3
    go_wp2_with fail
    refine (HP.out _).mono ?_
    rintro e w1 ⟨rfl, hb1⟩
    obtain ⟨hcell, hfr⟩ := bcell hb1
    have hsz := hb1.size
    simp only [World.size_alloc] at hsz
    have hlt : w.heap.size < w1.heap.size := by omega
    have hB : Blk w1 w.heap.size 24 #[Value.int .i64 sl, .int .u64 ge, .int .i64 cl, .int .i64 re, .int .i64 qu, .int .i64 ba, .int .i64 fe, .string tx] := (hb1.block _ (by simp)).trans (Blk.new w _ _)
    go_wp2_with fail
    refine calls_world fun W1 hW1 => ?_
    have hB1 : Blk W1 w.heap.size 24 #[Value.int .i64 sl, .int .u64 ge, .int .i64 cl, .int .i64 re, .int .i64 qu, .int .i64 ba, .int .i64 fe, .string tx] := by rw [hW1]; exact hB.alloc _
    have hL1 : Blk W1 w1.heap.size 26 #[Value.int .i64 0, .int .i64 0, .int .i64 0, .int .i64 0, .int .i64 0, .int .i64 0, .int .i64 0, .int .i64 0, .int .i64 0, .int .i64 0] := by rw [hW1]; exact Blk.new w1 _ _
    have hb2 : Below w.heap.size w W1 := by rw [hW1]; exact (((Below.refl _ _).alloc (Nat.le_refl _) _).trans (hb1.mono (by simp))).alloc (by omega) _
    have hs1 : W1.heap.size = w1.heap.size + 1 := by rw [hW1]; simp
    clear hW1 hcell hfr hsz
    refine (HQ.out _).mono ?_
    rintro e w2 ⟨rfl, hb3⟩
    have hB2 : Blk w2 w.heap.size 24 #[Value.int .i64 sl, .int .u64 ge, .int .i64 cl, .int .i64 re, .int .i64 qu, .int .i64 ba, .int .i64 fe, .string tx] := (hb3.block _ hB1.lt).trans hB1
    have hL2 : Blk w2 w1.heap.size 26 #[Value.int .i64 0, .int .i64 0, .int .i64 0, .int .i64 0, .int .i64 0, .int .i64 0, .int .i64 0, .int .i64 0, .int .i64 0, .int .i64 0] := (hb3.block _ hL1.lt).trans hL1
    have hs2 := hb3.size
    rw [hs1] at hs2
    go_wp2_with fail
    obtain ⟨S, hS⟩ : ∃ S : Nat → Prop, ∀ k, S k ↔ k < w2.heap.size + 1 := ⟨_, fun _ => Iff.rfl⟩
    have hSp : Mix.Has S w.heap.size := (hS _).2 (by omega)
    have hSp1 : Mix.Has S w1.heap.size := (hS _).2 (by omega)
    have hSp2 : Mix.Has S w2.heap.size := (hS _).2 (by omega)
    have HS := hid hS
    clear hS
    refine Mix.wp_region_mix S (fun i => ([0, 3, 4, 2, 0, 0, 0, 0, 0, 0, 0, 0, 0, 0, 0, 0] : List Nat).getD i 0) [0, 2, 1, 3, 4, 5, 6, 7, 8, 9, 10, 11, 12, 13, 14, 15] (by kernel_rfl) (by kernel_rfl) ?_
    refine Mix.mix_world fun W5 hW5 => ?_
    have hB5 : Blk W5 w.heap.size 24 #[Value.int .i64 sl, .int .u64 ge, .int .i64 cl, .int .i64 re, .int .i64 qu, .int .i64 ba, .int .i64 fe, .string tx] := by rw [hW5]; exact hB2.alloc _
    have hL5 : Blk W5 w1.heap.size 26 #[Value.int .i64 0, .int .i64 0, .int .i64 0, .int .i64 0, .int .i64 0, .int .i64 0, .int .i64 0, .int .i64 0, .int .i64 0, .int .i64 0] := by rw [hW5]; exact hL2.alloc _
    have hR5 : Blk W5 w2.heap.size 26 #[Value.int .i64 0, .int .i64 0, .int .i64 0, .int .i64 0, .int .i64 0, .int .i64 0, .int .i64 0, .int .i64 0, .int .i64 0, .int .i64 0] := by rw [hW5]; exact Blk.new w2 _ _
    have hs5 : W5.heap.size = w2.heap.size + 1 := by rw [hW5]; simp
    have hb5 : Below w.heap.size w W5 := by rw [hW5]; exact (hb2.trans (hb3.mono hb2.size)).alloc (by omega) _
    clear hW5 hB hB1 hL1 hB2 hL2 hb1 hb2 hb3
    have q := hB5.cell
    repeat (first | (refine Mix.mix_q (by simp only [List.getElem?_toArray, List.getElem?_cons_zero, List.getElem?_cons_succ]; exact rfl) rfl ?_; go_big_quiet_step (fail); refine wpQuiet_nil ?_) | (refine Mix.mix_p (by simp only [List.getElem?_toArray, List.getElem?_cons_zero, List.getElem?_cons_succ]; exact rfl) rfl rfl ?_; go_big_quiet_step (fail); refine wpQuiet_nil ?_) | (refine Mix.mix_s (by simp only [List.getElem?_toArray, List.getElem?_cons_zero, List.getElem?_cons_succ]; exact rfl) rfl rfl ?_; go_big_quiet_step (fail); refine wpQuiet_nil ?_))
    refine Mix.mix_a (by simp only [List.getElem?_toArray, List.getElem?_cons_zero, List.getElem?_cons_succ]; exact rfl) rfl fun W6 hW6 => ?_
    obtain ⟨n1, rfl⟩ := hW6
    go_wp2_with fail
    refine (HC.out _).mono ?_
    rintro e w7 ⟨rfl, hb7⟩
    have hk7 : Mix.Keep S W5 w7 := fun j hj => (hb7.block j (by have := (HS.out j).1 hj; simp; omega)).trans rfl
    have hB7 : Blk w7 w.heap.size 24 #[Value.int .i64 sl, .int .u64 ge, .int .i64 cl, .int .i64 re, .int .i64 qu, .int .i64 ba, .int .i64 fe, .string tx] := (hk7 _ hSp).trans hB5
    have hL7 : Blk w7 w1.heap.size 26 #[Value.int .i64 0, .int .i64 0, .int .i64 0, .int .i64 0, .int .i64 0, .int .i64 0, .int .i64 0, .int .i64 0, .int .i64 0, .int .i64 0] := (hk7 _ hSp1).trans hL5
    have hR7 : Blk w7 w2.heap.size 26 #[Value.int .i64 0, .int .i64 0, .int .i64 0, .int .i64 0, .int .i64 0, .int .i64 0, .int .i64 0, .int .i64 0, .int .i64 0, .int .i64 0] := (hk7 _ hSp2).trans hR5
    have hb7' : Below w.heap.size w w7 := (show Below w.heap.size w (W5.drewN n1) from ⟨hb5.os, hb5.tape, hb5.output, hb5.size, hb5.block⟩).trans (hb7.mono hb5.size)
    have hs7 := hb7.size
    clear q
    go_wp2_with fail
    refine ⟨hk7, ?_⟩
    refine Mix.mix_e (by simp only [List.getElem?_toArray, List.getElem?_cons_zero, List.getElem?_cons_succ]; exact rfl) rfl fun W8 hW8 => ?_
    obtain ⟨n2, rfl⟩ := hW8
    go_wp2_with fail
    refine (HR.out _).mono ?_
    rintro e w9 ⟨rfl, hb9⟩
    have hs7' : w2.heap.size < w7.heap.size := by have := hb7.size; simp at this; omega
    have hL9 : Blk w9 w1.heap.size 26 #[Value.int .i64 0, .int .i64 0, .int .i64 0, .int .i64 0, .int .i64 0, .int .i64 0, .int .i64 0, .int .i64 0, .int .i64 0, .int .i64 0] := (hb9.block _ (by simp; omega)).trans hL7
    have hR9 : Blk w9 w2.heap.size 26 #[Value.int .i64 0, .int .i64 0, .int .i64 0, .int .i64 0, .int .i64 0, .int .i64 0, .int .i64 0, .int .i64 0, .int .i64 0, .int .i64 0] := (hb9.block _ (by simp; omega)).trans hR7
    have hb9' : Below w.heap.size w w9 := (show Below w.heap.size w (w7.drewN n2) from ⟨hb7'.os, hb7'.tape, hb7'.output, hb7'.size, hb7'.block⟩).trans (hb9.mono hb7'.size)
    have ql := hL9.cell
    have qr := hR9.cell
    go_wp2_with fail
    repeat (first | (refine Mix.mix_q (by simp only [List.getElem?_toArray, List.getElem?_cons_zero, List.getElem?_cons_succ]; exact rfl) rfl ?_; go_big_quiet_step (fail); refine wpQuiet_nil ?_) | (refine Mix.mix_p (by simp only [List.getElem?_toArray, List.getElem?_cons_zero, List.getElem?_cons_succ]; exact rfl) rfl rfl ?_; go_big_quiet_step (fail); refine wpQuiet_nil ?_) | (refine Mix.mix_s (by simp only [List.getElem?_toArray, List.getElem?_cons_zero, List.getElem?_cons_succ]; exact rfl) rfl rfl ?_; go_big_quiet_step (fail); refine wpQuiet_nil ?_))
    intro n3
    go_wp2_with fail
    go_ret
    exact ⟨by first | rfl | simp, ⟨hb9'.os, hb9'.tape, hb9'.output, hb9'.size, hb9'.block⟩⟩
set_option maxHeartbeats 400000 in
theorem places_none (sl ge cl re qu ba fe : Int) (tx : ByteArray) (w : World) (hs : (300 < tx.size ∧ tx.size ≤ 65536) ∨ 65636 < tx.size) :
    Calls Try.prog 3 #[.agg #[.int .i64 sl, .int .u64 ge, .int .i64 cl, .int .i64 re, .int .i64 qu, .int .i64 ba, .int .i64 fe, .string tx]] w fun e w' => e = .returned (.bool true) ∧ Below w.heap.size w w' := by
  have d0 : decide ((300 : Int) < tx.size) = true := by simp; omega
  rcases hs with hs | hs
  · have d1 : decide ((tx.size : Int) ≤ 65536) = true := by simp; omega
    go_enter Try.func3, Try.ntmps3
    go_wp2_with fail
    go_ret
    exact ⟨rfl, (Below.refl _ _).alloc (Nat.le_refl _) _⟩
  · have d1 : decide ((tx.size : Int) ≤ 65536) = false := by simp; omega
    have d2 : decide ((65636 : Int) < tx.size) = true := by simp; omega
    go_enter Try.func3, Try.ntmps3
    go_wp2_with fail
    go_ret
    exact ⟨rfl, (Below.refl _ _).alloc (Nat.le_refl _) _⟩

theorem cf_of_fits {vs : List Value} (h : FitsS [some (some .i64), some (some .u64), some (some .i64), some (some .i64), some (some .i64), some (some .i64), some (some .i64), none] vs) :
    ∃ c : Cf, vs.toArray = #[Value.int .i64 c.sl, .int .u64 c.ge, .int .i64 c.cl, .int .i64 c.re, .int .i64 c.qu, .int .i64 c.ba, .int .i64 c.fe, .string c.tx] ∧ c.tx.size ≤ maxLen := by
  obtain ⟨hl, hf⟩ := h
  obtain ⟨v0, e0, n0, rfl, w0⟩ := hf 0 _ rfl
  obtain ⟨v1, e1, n1, rfl, w1⟩ := hf 1 _ rfl
  obtain ⟨v2, e2, n2, rfl, w2⟩ := hf 2 _ rfl
  obtain ⟨v3, e3, n3, rfl, w3⟩ := hf 3 _ rfl
  obtain ⟨v4, e4, n4, rfl, w4⟩ := hf 4 _ rfl
  obtain ⟨v5, e5, n5, rfl, w5⟩ := hf 5 _ rfl
  obtain ⟨v6, e6, n6, rfl, w6⟩ := hf 6 _ rfl
  obtain ⟨v7, e7, s7, rfl, w7⟩ := hf 7 _ rfl
  refine ⟨⟨n0, n1, n2, n3, n4, n5, n6, s7⟩, ?_, w7⟩
  match vs, hl with
  | [a, b, c, d, e, f, g, h], _ => simp at e0 e1 e2 e3 e4 e5 e6 e7; simp [e0, e1, e2, e3, e4, e5, e6, e7]

theorem places_walk (vs : List Value) (w : World) (h : FitsS [some (some .i64), some (some .u64), some (some .i64), some (some .i64), some (some .i64), some (some .i64), some (some .i64), none] vs) :
    Calls Try.prog 3 #[.agg vs.toArray] w fun e w' => e = .returned (.bool true) ∧ Below w.heap.size w w' := by
  obtain ⟨⟨sl, ge, cl, re, qu, ba, fe, tx⟩, hv, hz⟩ := cf_of_fits h
  rw [hv]
  by_cases h1 : (300 < tx.size ∧ tx.size ≤ 65536) ∨ 65636 < tx.size
  · exact places_none sl ge cl re qu ba fe tx w h1
  · by_cases hk : ckE ⟨sl, ge, cl, re, qu, ba, fe, tx⟩ = 0
    · exact places_ok sl ge cl re qu ba fe tx w (by omega) hk
    · exact places_bad sl ge cl re qu ba fe tx w (by omega) hk
end Go.Proofs.Ytgbmipglahebpaa
