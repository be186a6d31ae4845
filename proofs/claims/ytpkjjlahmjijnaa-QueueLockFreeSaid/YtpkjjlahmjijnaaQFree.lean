/- QueueLockFree: the walk. -/
import Derived.Test.YtpkjjlahmjijnaaQRunC
import Derived.Test.YtpkjjlahmjijnaaFrame
import Derived.IntWalk
namespace Go.Proofs.Ytpkjjlahmjijnaa
open Go.RowKit
set_option linter.unusedVariables false
set_option linter.unusedSimpArgs false

set_option maxRecDepth 100000 in
set_option maxHeartbeats 2000000 in
theorem free_walk (n : Int) (a : Option Addr) (nl cl : Nat) (ls : List (List Value)) (w : World) (hn : (Lit.int .i64 n).wf = true) (hx : InRows evKs w a nl ls) :
    Calls Try.prog 7 #[.int .i64 n, .slice a nl cl] w fun e w' => e = .returned (.bool true) ∧ Below w.heap.size w w' := by
  obtain ⟨xs, hev⟩ := in_evs hx
  have HE := hid hev
  clear hx hev
  by_cases h1 : n < 1
  · have d1 : decide (n < 1) = true := decide_eq_true h1
    go_enter Try.func7, Try.ntmps7
    go_wp2_with fail
    go_ret
    exact ⟨rfl, Below.refl _ _⟩
  have d1 : decide (n < 1) = false := decide_eq_false h1
  by_cases h2 : 6 < n
  · have d2 : decide (6 < n) = true := decide_eq_true h2
    go_enter Try.func7, Try.ntmps7
    go_wp2_with fail
    go_ret
    exact ⟨rfl, Below.refl _ _⟩
  have d2 : decide (6 < n) = false := decide_eq_false h2
  by_cases h3 : 200 < nl
  · have d3 : decide (200 < nl) = true := decide_eq_true h3
    have d3' : decide ((200 : Int) < (nl : Int)) = true := decide_eq_true (by omega)
    go_enter Try.func7, Try.ntmps7
    go_wp2_with fail
    go_ret
    exact ⟨rfl, Below.refl _ _⟩
  have d3 : decide (200 < nl) = false := decide_eq_false h3
  have d3' : decide ((200 : Int) < (nl : Int)) = false := decide_eq_false (by omega)
  obtain ⟨m, rfl⟩ := Int.eq_ofNat_of_zero_le (show 0 ≤ n by omega)
  go_enter Try.func7, Try.ntmps7
  go_wp2_with fail
  refine (run_any m (by omega) (by omega) a nl cl xs w HE.out (by omega)).mono ?_
  rintro e w1 ⟨p, cb, qb, X, M, lv, vp, vv, vs, vo, vr, vl, x, gp, gq, rfl, hR⟩
  have hbel := hR.mem.bel
  have H := hid hR
  obtain ⟨hls, hlo⟩ := hR.lens
  obtain ⟨As, cs, hvs, hcs⟩ := own_slice (hR.mem.each 2 _ rfl)
  obtain ⟨Ao, co, hvo, hco⟩ := own_slice (hR.mem.each 3 _ rfl)
  subst hvs hvo
  have hpm := hR.pm
  have hMM := hR.hM
  have H2 := hid hR
  clear hR H
  go_wp2_with fail
  go_loopw [6] (fun i wr => ∃ j : Nat, j ≤ gp.length ∧ i = .int .i64 j ∧ ∃ d, wr = w1.drewN d) (fun i _ => gp.length - (intOf i).toNat)
  case atStart => exact ⟨0, Nat.zero_le _, rfl, 0, rfl⟩
  case round =>
    obtain ⟨j, hj, rfl, d, rfl⟩ := hrel
    have x4 : w1.cell? ⟨X, 4, none⟩ = some (.slice As gp.length cs) := (H2.out.mem.each 5 _ rfl).cell 4
    have x5 : w1.cell? ⟨X, 5, none⟩ = some (.slice Ao gp.length co) := (H2.out.mem.each 5 _ rfl).cell 5
    by_cases hlt : j < gp.length
    · have d5 : decide (j < gp.length) = true := decide_eq_true hlt
      have d5' : decide ((j : Int) < (gp.length : Int)) = true := decide_eq_true (by omega)
      obtain ⟨⟨g, q⟩, hq⟩ : ∃ y, gp[j]? = some y := ⟨_, List.getElem?_eq_getElem hlt⟩
      obtain ⟨g1, c1, e1, _, _, k1, _⟩ := own_at (H2.out.mem.each 2 _ rfl) (intV_at (k := j) (by omega))
      obtain ⟨g2, c2, e2, _, _, k2, _⟩ := own_at (H2.out.mem.each 3 _ rfl) (intV_at (k := j) (by omega))
      have pt := (H2.out.ok hq).2
      have h4 := pt.all
      have hs0 := pt.s0
      have hm0 := pt.m0
      have hsM := H2.out.sm j
      have hoM := H2.out.om j
      have hlM := H2.out.lg
      injection e1 with e1 _ _
      injection e2 with e2 _ _
      subst e1 e2
      have hw1 : IntKind.i64.wrap (3 * lk x.ot j) = 3 * lk x.ot j := IntWalk.i64_in _ (by omega)
      have hw2 : IntKind.i64.wrap (4 + 3 * lk x.ot j) = 4 + 3 * lk x.ot j := IntWalk.i64_in _ (by omega)
      have d6 : decide (4 + 3 * lk x.ot j < lk x.st j) = false := decide_eq_false (by omega)
      clear pt h4 hq
      go_wp2_with fail
      go_quiet (fail)
      go_wp2_with fail
      go_roundw
      case rel => exact ⟨j + 1, by omega, by go_num, _, rfl⟩
      case measure => simp [intOf]; omega
    · obtain rfl : j = gp.length := by omega
      have d5 : decide (gp.length < gp.length) = false := decide_eq_false (by omega)
      have d5' : decide ((gp.length : Int) < (gp.length : Int)) = false := decide_eq_false (by omega)
      go_wp2_with fail
      go_ret
      exact ⟨rfl, (H2.out.drewN d).mem.bel⟩
end Go.Proofs.Ytpkjjlahmjijnaa
