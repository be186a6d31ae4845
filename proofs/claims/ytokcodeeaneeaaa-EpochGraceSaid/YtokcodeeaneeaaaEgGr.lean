/- EpochGrace: the walk. -/
import Derived.Test.YtokcodeeaneeaaaEgRc
import Derived.Test.YtokcodeeaneeaaaEgA
namespace Go.Proofs.Ytokcodeeaneeaaa
open Go.RowKit
set_option linter.unusedVariables false
set_option linter.unusedSimpArgs false
set_option linter.unusedSectionVars false

set_option maxRecDepth 100000 in
set_option maxHeartbeats 4000000 in
theorem grace_walk (n : Int) (a : Option Addr) (nl cl : Nat) (ls : List (List Value)) (w : World) (hn : (Lit.int .i64 n).wf = true) (hx : InRows evGKs w a nl ls) :
    Calls Try.prog 5 #[.int .i64 n, .slice a nl cl] w fun e w' => e = .returned (.bool true) ∧ Below w.heap.size w w' := by
  obtain ⟨xs, hev⟩ := in_evg hx
  have HE := hid hev
  
  
  clear hx hev 
  by_cases h1 : n < 0
  · have d1 : decide (n < 0) = true := decide_eq_true h1
    go_enter Try.func5, Try.ntmps5
    go_wp2_with fail
    go_ret
    exact ⟨rfl, Below.refl _ _⟩
  have d1 : decide (n < 0) = false := decide_eq_false h1
  by_cases h2 : 5 < n
  · have d2 : decide (5 < n) = true := decide_eq_true h2
    go_enter Try.func5, Try.ntmps5
    go_wp2_with fail
    go_ret
    exact ⟨rfl, Below.refl _ _⟩
  have d2 : decide (5 < n) = false := decide_eq_false h2
  by_cases h3 : 300 < nl
  · have d3 : decide (300 < nl) = true := decide_eq_true h3
    have d3' : decide ((300 : Int) < (nl : Int)) = true := decide_eq_true (by omega)
    go_enter Try.func5, Try.ntmps5
    go_wp2_with fail
    go_ret
    exact ⟨rfl, Below.refl _ _⟩
  have d3 : decide (300 < nl) = false := decide_eq_false h3
  have d3' : decide ((300 : Int) < (nl : Int)) = false := decide_eq_false (by omega)
  obtain ⟨m, rfl⟩ := Int.eq_ofNat_of_zero_le (show 0 ≤ n by omega)
  have hm5 : m ≤ 5 := by omega
  go_enter Try.func5, Try.ntmps5
  go_wp2_with fail
  refine (egrun_any m hm5 a nl cl xs w HE.out (by omega)).mono ?_
  rintro e w1 ⟨p, cb, qb, pb, pr, X, lb, rfl, lv, ov, v0, v1, v2, x, gp, gs, go, hR, hG⟩
  have H := hid hR
  have HG := hid hG
  have x6 : w1.cell? ⟨X, 6, none⟩ = some (.bool true) := ((hR.mem.each 3 _ rfl).cell 6).trans (congrArg (fun b => some (Value.bool b)) hG.fn)
  clear hR hG
  go_wp2_with fail
  go_ret
  exact ⟨rfl, H.out.mem.bel⟩
end Go.Proofs.Ytokcodeeaneeaaa
