/- Regions that draw their order: all ways meet in one fact; three operations side by side. -/
import Derived.Test.YtefpabicgefciaaMixT
namespace Go.Proofs.Ytefpabicgefciaa.Mix
open Go
set_option linter.unusedSimpArgs false
set_option linter.unusedVariables false

section
variable {P : Program} {ops : Array Oper} {S : Nat → Prop} {kd : Nat → Nat}
theorem wpX_mono {Q Q' : Act → World → Prop} (hQ : ∀ a w, Q a w → Q' a w) : ∀ (fuel : Nat) (listed : Array Bool) (a : Act) (w : World), wpX P ops S kd Q fuel listed a w → wpX P ops S kd Q' fuel listed a w
  | 0, _, _, _, h => ⟨h.1, fun n => hQ _ _ (h.2 n)⟩
  | fuel + 1, listed, a, w, h => ⟨fun e n => hQ _ _ (h.1 e n), fun i hi => opX_mono (fun a' w' hK => wpX_mono hQ fuel _ a' w' hK) (h.2 i hi)⟩

/-- Three operations are ready, and no other: each way. -/
theorem wpX_three {Q : Act → World → Prop} {fuel : Nat} {listed : Array Bool} {a : Act} {w : World} (i j k : Nat) (hB : (Region.ready .any ops listed == [i, j, k]) = true)
    (h1 : wpMix P ops S kd (fun a w => wpX P ops S kd Q fuel (listed.setIfInBounds i true) a w) [i] a w) (h2 : wpMix P ops S kd (fun a w => wpX P ops S kd Q fuel (listed.setIfInBounds j true) a w) [j] a w)
    (h3 : wpMix P ops S kd (fun a w => wpX P ops S kd Q fuel (listed.setIfInBounds k true) a w) [k] a w) : wpX P ops S kd Q (fuel + 1) listed a w := by
  have hr : Region.ready .any ops listed = [i, j, k] := by simpa using hB
  refine ⟨(fun h => by rw [hr] at h; cases h), fun m hm => ?_⟩
  rw [hr] at hm
  simp at hm
  rcases hm with rfl | rfl | rfl
  · exact opX_mono (fun a' w' hK => hK 0) h1
  · exact opX_mono (fun a' w' hK => hK 0) h2
  · exact opX_mono (fun a' w' hK => hK 0) h3

/-- The region, by all its ways, that meet in J. -/
theorem wp_region_XJ {id : Nat} {Q : Exit → Act → World → Prop} {a : Act} {w : World} {l : List Oper} (S : Nat → Prop) (kd : Nat → Nat) (J : Act → Act → World → Prop) (hm : P.follows .mixedOrders = true)
    (h1 : wpX P l.toArray S kd (J a) l.toArray.size (Array.replicate l.toArray.size false) a w) (h2 : ∀ a' w', J a a' w' → Q .normal a' w') : (Code.region id l.toArray true).wp P Q a w :=
  wp_region_X S kd hm (wpX_mono h2 _ _ _ _ h1)
end
end Go.Proofs.Ytefpabicgefciaa.Mix
