/- The feed's run: begin, some. -/
import Derived.Test.YtonjbofdmmnpdaaFeedI
namespace Go.Proofs.Ytonjbofdmmnpdaa
open Go.RowKit
set_option linter.unusedVariables false
set_option linter.unusedSimpArgs false
set_option linter.unusedSectionVars false

/-- The run at its beginning. -/
def Xs.zero (n : Nat) : Xs := { s := BS.store ⟨List.replicate (n + 4) 0, []⟩ 0 0 1, f := ⟨0, n, 0, false, false⟩, P := none, R := none, pushed := [], items := [], ended := 0, got := [], lags := [], steps := 0, takes := 0, full := false, looked := 0, clean := false }

theorem lk_zero (n j : Nat) : lk (List.replicate n 0) j = 0 := by
  unfold lk
  rw [List.getD_eq_getElem?_getD, List.getElem?_replicate]
  split <;> rfl
theorem lk_zero1 (n j : Nat) (h : j ≠ 0) : lk ((List.replicate n 0).set 0 1) j = 0 := by
  rw [lk_set_ne _ (fun e => h e.symm)]
  exact lk_zero n j
theorem inv_zero (n : Nat) (h1 : 1 ≤ n) (h6 : n ≤ 6) : Inv (Xs.zero n) 1 0 0 0 := by
  have hv : (Xs.zero n).s.vs = (List.replicate (n + 4) 0).set 0 1 := rfl
  have e0 : cAct (Xs.zero n).s (Xs.zero n).f = 1 := by
    show lk ((List.replicate (n + 4) 0).set 0 1) 0 = 1
    exact lk_set _ (by simp)
  have e1 : cLag (Xs.zero n).s (Xs.zero n).f = 0 := lk_zero1 _ 1 (by decide)
  have e2 : cHead (Xs.zero n).s (Xs.zero n).f = 0 := lk_zero1 _ 2 (by decide)
  have e3 : cTail (Xs.zero n).s (Xs.zero n).f = 0 := lk_zero1 _ 3 (by decide)
  refine { n1 := ⟨h1, h6⟩, f0 := rfl, vl := ?_, lg := ?_, act := e0, hH := e2, hT := e3, HT := ⟨Nat.le_refl _, Nat.zero_le _, Nat.zero_le _⟩, ring := fun j _ h => by omega, il := rfl, inc := fun i j _ h => absurd h (Nat.not_lt_zero _), pos := fun i h => absurd h (Nat.not_lt_zero _), pl := rfl, pm := Nat.zero_le _, itp := fun j _ h => by omega, lag := .inl ⟨e1, rfl⟩, lst := .inl ⟨rfl, rfl⟩, gl := ⟨rfl, Nat.zero_le _⟩, cnt := rfl, flast := rfl, fpr := ⟨rfl, rfl⟩, prod := fun q h => (by cases h), cons := fun r h => (by cases h) }
  · rw [hv, List.length_set, List.length_replicate]; rfl
  · show (BS.store ⟨List.replicate (n + 4) 0, []⟩ 0 0 1).lg.length ≤ 1
    rw [store_lg]; exact Nat.le_refl _

set_option maxRecDepth 100000 in
set_option maxHeartbeats 2000000 in
theorem begin_ok (n : Nat) (h1 : 1 ≤ n) (h6 : n ≤ 6) (w : World) : Calls Try.prog 53 #[.int .i64 n] w fun e w' => ∃ p cb fb X, e = .returned (.pointer (some ⟨X, 0, none⟩)) ∧ RunX w.heap.size p cb fb X (Xs.zero n) w w' := by
  have hsm : n + 4 < 100 := by omega
  go_enter Try.func53, Try.ntmps53
  go_wp2_with fail
  rw [show ((n : Int) + 4) = ((n + 4 : Nat) : Int) by omega]
  refine (new_ok w.heap.size (n + 4) (by omega) (by omega) w (Nat.le_refl _)).mono ?_
  rintro e w1 ⟨p, cb, rfl, hbank, hc1, hp1, hcb1⟩
  have hbel1 := hc1.below (B := w.heap.size) (Nat.le_refl _) (fun _ h => h.elim)
  have Hb := hid hbank
  clear hbank
  go_wp2_with fail
  refine (fnew_ok w.heap.size p cb (.slice none 0 0) ⟨List.replicate (n + 4) 0, []⟩ w1 0 n Hb.out h1 (by omega) (by rw [List.length_replicate]; omega) (fun j _ _ => lk_zero _ _)).mono ?_
  rintro e w2 ⟨fb, rfl, hfd, hc2, hfb⟩
  have hbel2 := hbel1.trans (hc2.below hbel1.size (fun _ h => h.elim))
  have hf2 : FeedM w.heap.size w2 p cb fb (.slice none 0 0) ⟨List.replicate (n + 4) 0, []⟩ ⟨0, n, 0, false, false⟩ := ⟨Hb.out.ch hc2 id id (fun _ _ => id), hfd, ⟨by rw [List.length_replicate]; show 0 + 4 + n ≤ n + 4; omega, h1, by show n ≤ 64; omega⟩, by have := hbel1.size; omega⟩
  have Hf2 := hid hf2
  clear hf2 hfd hc2 hc1
  go_wp2_with fail
  refine (fact_ok _ _ _ _ _ _ _ _ Hf2.out 0 ⟨by decide, by decide⟩ (by show 0 < 1000000; decide) hbel2.size (lk_zero _ _)).mono ?_
  rintro e w3 ⟨rfl, lv3, hf3, hc3, hy3⟩
  have hb3 : Below w.heap.size w2 w3 := hc3.below hbel2.size (fun k e => by
    rcases e with e | e | e
    · rw [e]; exact Hf2.out.b.bp
    · rw [e]; exact Hf2.out.b.bc
    · exact (Hf2.out.b.hl.lt k e).1)
  have hbel3 := hbel2.trans hb3
  have Hf3 := hid hf3
  clear hf3 hc3 hy3
  go_wp2_with fail
  go_ret
  have hca : ∀ o, Ch (fun _ => False) w3 (w3.alloc o) := fun o => (Ch.refl _ w3).alloc o
  refine ⟨p, cb, fb, w3.heap.size, rfl, ?_⟩
  refine runX_mk (x := Xs.zero n) (lv := lv3) (vp := .slice none 0 0) (vi := .slice none 0 0) (vg := .slice none 0 0) (vl := .slice none 0 0) (P := none) (R := none) ⟨Hf3.out.keep (hca _), Blk.new w3 _ _, World.ownsRow_nil _ _ _ _, World.ownsRow_nil _ _ _ _, World.ownsRow_nil _ _ _ _, World.ownsRow_nil _ _ _ _, fun b q e => (by cases e), fun b q e => (by cases e), fun k hk => (by simp [Value.ownBlock] at hk), fun k hk => (by simp [Value.ownBlock] at hk), fun k hk => (by simp [Value.ownBlock] at hk), hbel3.trans ((hca _).below hbel3.size (fun _ h => h.elim)), hbel3.size, Nat.le_trans hbel3.size (hca _).size⟩ 0 0 rfl rfl ?_ rfl rfl rfl rfl rfl rfl
  rfl

/-- Is it a run that the statements go through? -/
def someB (n : Int) (l : Nat) : Bool := decide (1 ≤ n) && decide (n ≤ 6) && decide (l ≤ 400)
set_option maxRecDepth 100000 in
theorem some_any (n : Int) (a : Option Addr) (l c : Nat) (w : World) : Calls Try.prog 12 #[.int .i64 n, .slice a l c] w fun e w' => e = .returned (.bool (someB n l)) ∧ w = w' := by
  by_cases h1 : 1 ≤ n
  · by_cases h2 : n ≤ 6
    · have d1 : decide (1 ≤ n) = true := decide_eq_true h1
      have d2 : decide (n ≤ 6) = true := decide_eq_true h2
      have d3 : decide ((l : Int) ≤ 400) = decide (l ≤ 400) := by simp; omega
      have hE : someB n l = decide (l ≤ 400) := by unfold someB; rw [d1, d2]; rfl
      rw [hE]
      clear hE
      go_enter Try.func12, Try.ntmps12
      go_wp2_with fail
      go_ret
      exact ⟨by simp, rfl⟩
    · have d1 : decide (1 ≤ n) = true := decide_eq_true h1
      have d2 : decide (n ≤ 6) = false := decide_eq_false h2
      have hE : someB n l = false := by unfold someB; rw [d1, d2]; rfl
      rw [hE]
      clear hE
      go_enter Try.func12, Try.ntmps12
      go_wp2_with fail
      go_ret
      exact ⟨rfl, rfl⟩
  · have d1 : decide (1 ≤ n) = false := decide_eq_false h1
    have hE : someB n l = false := by unfold someB; rw [d1]; rfl
    rw [hE]
    clear hE
    go_enter Try.func12, Try.ntmps12
    go_wp2_with fail
    go_ret
    exact ⟨rfl, rfl⟩
end Go.Proofs.Ytonjbofdmmnpdaa
