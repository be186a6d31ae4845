/- QueueTells: the walk. -/
import Derived.Test.YtpkjjlahmjijnaaQRunC
import Derived.Test.YtpkjjlahmjijnaaFrame
namespace Go.Proofs.Ytpkjjlahmjijnaa
open Go.RowKit
set_option linter.unusedVariables false
set_option linter.unusedSimpArgs false

set_option maxRecDepth 100000 in
set_option maxHeartbeats 2000000 in
theorem tells_walk (n : Int) (a : Option Addr) (nl cl : Nat) (ls : List (List Value)) (w : World) (hn : (Lit.int .i64 n).wf = true) (hx : InRows evKs w a nl ls) :
    Calls Try.prog 6 #[.int .i64 n, .slice a nl cl] w fun e w' => e = .returned (.bool true) ∧ Below w.heap.size w w' := by
  obtain ⟨xs, hev⟩ := in_evs hx
  have HE := hid hev
  clear hx hev
  by_cases h1 : n < 1
  · have d1 : decide (n < 1) = true := decide_eq_true h1
    go_enter Try.func6, Try.ntmps6
    go_wp2_with fail
    go_ret
    exact ⟨rfl, Below.refl _ _⟩
  have d1 : decide (n < 1) = false := decide_eq_false h1
  by_cases h2 : 6 < n
  · have d2 : decide (6 < n) = true := decide_eq_true h2
    go_enter Try.func6, Try.ntmps6
    go_wp2_with fail
    go_ret
    exact ⟨rfl, Below.refl _ _⟩
  have d2 : decide (6 < n) = false := decide_eq_false h2
  by_cases h3 : 200 < nl
  · have d3 : decide (200 < nl) = true := decide_eq_true h3
    have d3' : decide ((200 : Int) < (nl : Int)) = true := decide_eq_true (by omega)
    go_enter Try.func6, Try.ntmps6
    go_wp2_with fail
    go_ret
    exact ⟨rfl, Below.refl _ _⟩
  have d3 : decide (200 < nl) = false := decide_eq_false h3
  have d3' : decide ((200 : Int) < (nl : Int)) = false := decide_eq_false (by omega)
  obtain ⟨m, rfl⟩ := Int.eq_ofNat_of_zero_le (show 0 ≤ n by omega)
  go_enter Try.func6, Try.ntmps6
  go_wp2_with fail
  refine (run_any m (by omega) (by omega) a nl cl xs w HE.out (by omega)).mono ?_
  rintro e w1 ⟨p, cb, qb, X, M, lv, vp, vv, vs, vo, vr, vl, x, gp, gq, rfl, hR⟩
  have hbel := hR.mem.bel
  have H := hid hR
  have x8 : w1.cell? ⟨X, 8, none⟩ = some (.bool true) := (hR.mem.each 5 _ rfl).cell 8
  clear hR
  go_wp2_with fail
  go_ret
  exact ⟨rfl, hbel⟩
end Go.Proofs.Ytpkjjlahmjijnaa
