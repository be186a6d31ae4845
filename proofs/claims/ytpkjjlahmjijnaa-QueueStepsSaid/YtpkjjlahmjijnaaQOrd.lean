/- QueueOrder: the walk. -/
import Derived.Test.YtpkjjlahmjijnaaQRunC
import Derived.Test.YtpkjjlahmjijnaaFrame
namespace Go.Proofs.Ytpkjjlahmjijnaa
open Go.RowKit
set_option linter.unusedVariables false
set_option linter.unusedSimpArgs false

theorem addr_zero (p : Addr) : p.add 0 = p := by unfold Addr.add; split <;> simp_all
theorem run_slice_high {P : Program} (t e : TypeId) (size : Nat) (ht : P.underlying t = some (.slice e)) (hz : (P.info? e).map (·.size) = some size) (A : Option Addr) (n cap i : Nat) (hi : i ≤ n) (hc : n ≤ cap) (w : World) :
    (Instr.sliceAt t (.slice A n cap) none (some (.int .i64 (i : Int))) none).run P w = .ok (.slice A i cap) w := by
  cases hq : P.info? e with
  | none => simp [hq] at hz
  | some inf =>
    have hsz : inf.size = size := by simpa [hq] using hz
    have h1 : (0 : Int) ≤ (i : Int) ∧ (i : Int) ≤ (cap : Int) := by omega
    simp only [Instr.sliceAt, Sem.run_bind, run_underlying ht, Result.andThen_ok, Instr.slice, Instr.sliceBounds, Instr.sliceBound, asIntOf, Sem.run_pure, h1, and_self, if_true, Int.toNat_natCast, sizeOf, typeInfo, hq]
    simp [program, Sem.run, hq, hsz]
    all_goals (intros; cases A <;> simp [addr_zero])
theorem same_of_own {w : World} {B n m c : Nat} {A : Option Addr} {xs : List Int} (h : w.ownsRow B 22 1 (.slice A n c) n (u64V xs)) (hm : m ≤ n) : SameWords w A m (xs.take m) := by
  have hl : xs.length = n := by have := h.1; simpa [u64V] using this
  refine ⟨by simp; omega, fun h0 => ?_⟩
  obtain ⟨g, c', e, _⟩ := own_at h (u64V_at (k := 0) (by omega))
  injection e with e _ _
  refine ⟨g, 0, e, fun i hi => ?_⟩
  obtain ⟨g2, c2, e2, _, _, hc, _⟩ := own_at h (u64V_at (k := i) (by omega))
  injection e2 with e2 _ _
  rw [e] at e2
  injection e2 with e2
  injection e2 with e2
  subst e2
  rw [Nat.zero_add, hc]
  simp [lk, List.getD_eq_getElem?_getD, List.getElem?_take, hi]
theorem eqWords_q (a b : Option Addr) (n ca m cb : Nat) (xs ys : List Int) (w : World) (ha : SameWords w a n xs) (hb : SameWords w b m ys) (hn : n < 1000000) (he : xs = ys) (k : Nat) :
    Calls Try.prog 26 #[.slice a n ca, .slice b m cb] (w.drewN k) fun e w'' => e = .returned (.bool true) ∧ ∃ j, w'' = w.drewN j :=
  Calls.quiet_of ((eqWords_any a b n ca m cb xs ys (w.drewN k) ha hb hn).mono fun e w' ⟨h1, h2⟩ => ⟨by rw [h1, decide_eq_true he], h2⟩)

set_option maxRecDepth 100000 in
set_option maxHeartbeats 2000000 in
theorem order_walk (n : Int) (a : Option Addr) (nl cl : Nat) (ls : List (List Value)) (w : World) (hn : (Lit.int .i64 n).wf = true) (hx : InRows evKs w a nl ls) :
    Calls Try.prog 5 #[.int .i64 n, .slice a nl cl] w fun e w' => e = .returned (.bool true) ∧ Below w.heap.size w w' := by
  obtain ⟨xs, hev⟩ := in_evs hx
  have HE := hid hev
  clear hx hev
  by_cases h1 : n < 1
  · have d1 : decide (n < 1) = true := decide_eq_true h1
    go_enter Try.func5, Try.ntmps5
    go_wp2_with fail
    go_ret
    exact ⟨rfl, Below.refl _ _⟩
  have d1 : decide (n < 1) = false := decide_eq_false h1
  by_cases h2 : 6 < n
  · have d2 : decide (6 < n) = true := decide_eq_true h2
    go_enter Try.func5, Try.ntmps5
    go_wp2_with fail
    go_ret
    exact ⟨rfl, Below.refl _ _⟩
  have d2 : decide (6 < n) = false := decide_eq_false h2
  by_cases h3 : 200 < nl
  · have d3 : decide (200 < nl) = true := decide_eq_true h3
    have d3' : decide ((200 : Int) < (nl : Int)) = true := decide_eq_true (by omega)
    go_enter Try.func5, Try.ntmps5
    go_wp2_with fail
    go_ret
    exact ⟨rfl, Below.refl _ _⟩
  have d3 : decide (200 < nl) = false := decide_eq_false h3
  have d3' : decide ((200 : Int) < (nl : Int)) = false := decide_eq_false (by omega)
  obtain ⟨m, rfl⟩ := Int.eq_ofNat_of_zero_le (show 0 ≤ n by omega)
  go_enter Try.func5, Try.ntmps5
  go_wp2_with fail
  refine (run_any m (by omega) (by omega) a nl cl xs w HE.out (by omega)).mono ?_
  rintro e w1 ⟨p, cb, qb, X, M, lv, vp, vv, vs, vo, vr, vl, x, gp, gq, rfl, hR⟩
  have hbel := hR.mem.bel
  have H := hid hR
  obtain ⟨Ar, cr, hvr, hcr⟩ := own_slice (hR.mem.each 6 _ rfl)
  obtain ⟨Al, cl, hvl, hcl⟩ := own_slice (hR.mem.each 7 _ rfl)
  subst hvr hvl
  have x6 : w1.cell? ⟨X, 6, none⟩ = some (.slice Ar x.rs.length cr) := (hR.mem.each 5 _ rfl).cell 6
  have x7 : w1.cell? ⟨X, 7, none⟩ = some (.slice Al x.pl.length cl) := (hR.mem.each 5 _ rfl).cell 7
  have hle := hR.inv.le
  have hrm := hR.rm
  have hlM := hR.lg
  have hMM := hR.hM
  have d4 : decide (x.pl.length ≤ x.rs.length) = true := decide_eq_true hle
  have d4' : decide ((x.pl.length : Int) ≤ (x.rs.length : Int)) = true := decide_eq_true (by omega)
  have hsl : ∀ W : World, (Instr.sliceAt 40 (.slice Ar x.rs.length cr) none (some (.int .i64 (x.pl.length : Int))) none).run Try.prog W = .ok (.slice Ar x.pl.length cr) W := fun W => run_slice_high _ 22 1 Try.underlying40 (by kernel_rfl) _ _ _ _ hle hcr W
  have s1 := same_of_own (m := x.pl.length) (hR.mem.each 7 _ rfl) (Nat.le_refl _)
  have s2 := same_of_own (m := x.pl.length) (hR.mem.each 6 _ rfl) hle
  have S1 := hid s1
  have S2 := hid s2
  have PR := hid (show x.pl.take x.pl.length = x.rs.take x.pl.length by rw [List.take_length]; exact hR.inv.pre)
  clear hR s1 s2
  go_wp2_with fail
  go_quiet ((go_at_call 26; exact eqWords_q _ _ _ _ _ _ _ _ w1 S1.out S2.out (by omega) PR.out _))
  go_wp2_with fail
  go_ret
  exact ⟨rfl, (H.out.drewN nq).mem.bel⟩
end Go.Proofs.Ytpkjjlahmjijnaa
