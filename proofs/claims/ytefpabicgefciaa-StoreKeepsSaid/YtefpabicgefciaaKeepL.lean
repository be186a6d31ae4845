/- StoreKeeps, of what came in. -/
import Derived.Test.YtefpabicgefciaaKeepJ
namespace Go.Proofs.Ytefpabicgefciaa
open Go.RowKit
theorem keeps_in (a : Option Addr) (n c : Nat) (ls : List (List Value)) (w : World) (h : InRowsN rvKs w a n ls) : Calls Try.prog 3 #[.slice a n c] w fun e w' => e = .returned (.bool true) ∧ Below w.heap.size w w' := by
  obtain ⟨l, hl⟩ := in_revs h
  exact keeps_walk a n c l w hl
end Go.Proofs.Ytefpabicgefciaa
