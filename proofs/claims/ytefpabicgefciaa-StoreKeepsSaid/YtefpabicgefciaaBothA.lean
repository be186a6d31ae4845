/- The bank and the reference's bank side by side. -/
import Derived.Test.YtefpabicgefciaaCellE
import Derived.Test.YtefpabicgefciaaRefB
namespace Go.Proofs.Ytefpabicgefciaa
open Go.RowKit
set_option linter.unusedSimpArgs false
set_option linter.unusedVariables false

section


end

def BS.has (s : BS) (c : Int) : Bool := decide (0 ≤ c ∧ c < s.vs.length)
def BS.pk (s : BS) (c : Int) : Int := if 0 ≤ c ∧ c < s.vs.length then lk s.vs c.toNat else 0
theorem Bank.out {B : Nat} {w : World} {p cb : Nat} {lv : Value} {vs : List Int} {lg : List Acc} (h : Bank B w p cb lv vs lg) {g : Nat} {t : TypeId} {cs : Array Value} (hb : Blk w g t cs) (h1 : t ≠ 92) (h2 : t ≠ 146) (h3 : t ≠ 222) : ¬ FP p cb lv g := by
  rintro (rfl | rfl | hk)
  · exact h1 (hb.inj h.hp).1
  · exact h2 (hb.inj h.hc).1
  · exact hb.own h.hl h3 hk
end Go.Proofs.Ytefpabicgefciaa
