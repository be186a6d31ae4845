/-
  No cell of these rows narrows 'for every input' (looked for: loops, veiled, ifaces, maps, wideKeys, modest, calm, conditions, laid).
  DERIVED. THE GIVEN ROWS OF THIS SEAT. 9 by the template 'for every input the law returns true; each argument reads behind the call as it read before'; 0 by the template 'total and deterministic' (their statements: YtonjbofdmmnpdaaTotals.lean).
  GIVEN WITH THE SEED: the statements are not yours to turn. If you find one false, say at which input.
  Laid BY PROGRAM, IN A SANDBOX (cutbox-rows.mjs): the forced cells as the released guide's own fill.sh prints them over the translation 61bcefd56fad1520… (all of the seat's roots in one cut). By AI agents, Wed Nov 11 2026. No macro, syntax, notation, axiom, sorry.
-/
import Derived.Test.YtonjbofdmmnpdaaChecked
import GoSem.Claim
import GoSem.ClaimJoined
import GoSem.ClaimMapViews
import Derived.JoinedTies
import Derived.KernelRfl
namespace Go.Proofs.Ytonjbofdmmnpdaa
/- THE CELL 'sum', in the pinned program and in every row, IS THE sha256 OF THE DUMP (.gsa) THAT YtonjbofdmmnpdaaProg.lean LOADS. Nothing in Lean hashes anything: it is a label: what it is worth is what the hold of that sum in a sandbox is worth. -/
noncomputable def Try.pinned : Pinned := { name := "ytonjbofdmmnpdaa", sum := "61bcefd56fad1520d37e4729b093c509458456666c86a73a1b2dae0cecce799f", checked := Try.checked }
namespace Rows
def none {H : Type} : Left H := { results := [], args := [] }

/-- 'quartolaw28.FeedRises': WHATEVER THE INPUT: true; the input reads as it did. -/
def feedRisesSpec : ChangeSpec := { name := "feedRises", fn := fun _ => fun
  | [d1, d2] => { results := [.lit (.bool true)], args := [d1, d2] }
  | _ => none }
def feedRisesRow : OpenClaim := { program := "ytonjbofdmmnpdaa", sum := "61bcefd56fad1520d37e4729b093c509458456666c86a73a1b2dae0cecce799f", func := "quarto/quartolaw28.FeedRises", spec := "feedRises", inPlace := ["sync/atomic.LoadUint64", "sync/atomic.CompareAndSwapUint64", "sync/atomic.StoreUint64", "sync/atomic.SwapUint64"], unfollowed := true, recurses := true, apart := false }
def FeedRisesSaid : Prop := feedRisesRow.holds Try.pinned (OpenSpec.ofChange feedRisesSpec)

/-- ITS FALSE NEIGHBOUR: 'it returns false'. Refute it at one input. -/
def feedRisesWrong : ChangeSpec := { name := "feedRises", fn := fun _ => fun
  | [d1, d2] => { results := [.lit (.bool false)], args := [d1, d2] }
  | _ => none }
def FeedRisesWrongFalsely : Prop := feedRisesRow.holds Try.pinned (OpenSpec.ofChange feedRisesWrong)

/-- 'quartolaw28.FeedGapless': WHATEVER THE INPUT: true; the input reads as it did. -/
def feedGaplessSpec : ChangeSpec := { name := "feedGapless", fn := fun _ => fun
  | [d1, d2] => { results := [.lit (.bool true)], args := [d1, d2] }
  | _ => none }
def feedGaplessRow : OpenClaim := { program := "ytonjbofdmmnpdaa", sum := "61bcefd56fad1520d37e4729b093c509458456666c86a73a1b2dae0cecce799f", func := "quarto/quartolaw28.FeedGapless", spec := "feedGapless", inPlace := ["sync/atomic.LoadUint64", "sync/atomic.CompareAndSwapUint64", "sync/atomic.StoreUint64", "sync/atomic.SwapUint64"], unfollowed := true, recurses := true, apart := false }
def FeedGaplessSaid : Prop := feedGaplessRow.holds Try.pinned (OpenSpec.ofChange feedGaplessSpec)

/-- ITS FALSE NEIGHBOUR: 'it returns false'. Refute it at one input. -/
def feedGaplessWrong : ChangeSpec := { name := "feedGapless", fn := fun _ => fun
  | [d1, d2] => { results := [.lit (.bool false)], args := [d1, d2] }
  | _ => none }
def FeedGaplessWrongFalsely : Prop := feedGaplessRow.holds Try.pinned (OpenSpec.ofChange feedGaplessWrong)

/-- 'quartolaw28.FeedLags': WHATEVER THE INPUT: true; the input reads as it did. -/
def feedLagsSpec : ChangeSpec := { name := "feedLags", fn := fun _ => fun
  | [d1, d2] => { results := [.lit (.bool true)], args := [d1, d2] }
  | _ => none }
def feedLagsRow : OpenClaim := { program := "ytonjbofdmmnpdaa", sum := "61bcefd56fad1520d37e4729b093c509458456666c86a73a1b2dae0cecce799f", func := "quarto/quartolaw28.FeedLags", spec := "feedLags", inPlace := ["sync/atomic.LoadUint64", "sync/atomic.CompareAndSwapUint64", "sync/atomic.StoreUint64", "sync/atomic.SwapUint64"], unfollowed := true, recurses := true, apart := false }
def FeedLagsSaid : Prop := feedLagsRow.holds Try.pinned (OpenSpec.ofChange feedLagsSpec)

/-- ITS FALSE NEIGHBOUR: 'it returns false'. Refute it at one input. -/
def feedLagsWrong : ChangeSpec := { name := "feedLags", fn := fun _ => fun
  | [d1, d2] => { results := [.lit (.bool false)], args := [d1, d2] }
  | _ => none }
def FeedLagsWrongFalsely : Prop := feedLagsRow.holds Try.pinned (OpenSpec.ofChange feedLagsWrong)

/-- 'quartolaw28.FeedEmpties': WHATEVER THE INPUT: true; the input reads as it did. -/
def feedEmptiesSpec : ChangeSpec := { name := "feedEmpties", fn := fun _ => fun
  | [d1, d2] => { results := [.lit (.bool true)], args := [d1, d2] }
  | _ => none }
def feedEmptiesRow : OpenClaim := { program := "ytonjbofdmmnpdaa", sum := "61bcefd56fad1520d37e4729b093c509458456666c86a73a1b2dae0cecce799f", func := "quarto/quartolaw28.FeedEmpties", spec := "feedEmpties", inPlace := ["sync/atomic.LoadUint64", "sync/atomic.CompareAndSwapUint64", "sync/atomic.StoreUint64", "sync/atomic.SwapUint64"], unfollowed := true, recurses := true, apart := false }
def FeedEmptiesSaid : Prop := feedEmptiesRow.holds Try.pinned (OpenSpec.ofChange feedEmptiesSpec)

/-- ITS FALSE NEIGHBOUR: 'it returns false'. Refute it at one input. -/
def feedEmptiesWrong : ChangeSpec := { name := "feedEmpties", fn := fun _ => fun
  | [d1, d2] => { results := [.lit (.bool false)], args := [d1, d2] }
  | _ => none }
def FeedEmptiesWrongFalsely : Prop := feedEmptiesRow.holds Try.pinned (OpenSpec.ofChange feedEmptiesWrong)

/-- 'quartolaw28.FeedSteady': WHATEVER THE INPUT: true; the input reads as it did. -/
def feedSteadySpec : ChangeSpec := { name := "feedSteady", fn := fun _ => fun
  | [d1, d2] => { results := [.lit (.bool true)], args := [d1, d2] }
  | _ => none }
def feedSteadyRow : OpenClaim := { program := "ytonjbofdmmnpdaa", sum := "61bcefd56fad1520d37e4729b093c509458456666c86a73a1b2dae0cecce799f", func := "quarto/quartolaw28.FeedSteady", spec := "feedSteady", inPlace := ["sync/atomic.LoadUint64", "sync/atomic.CompareAndSwapUint64", "sync/atomic.StoreUint64", "sync/atomic.SwapUint64"], unfollowed := true, recurses := true, apart := false }
def FeedSteadySaid : Prop := feedSteadyRow.holds Try.pinned (OpenSpec.ofChange feedSteadySpec)

/-- ITS FALSE NEIGHBOUR: 'it returns false'. Refute it at one input. -/
def feedSteadyWrong : ChangeSpec := { name := "feedSteady", fn := fun _ => fun
  | [d1, d2] => { results := [.lit (.bool false)], args := [d1, d2] }
  | _ => none }
def FeedSteadyWrongFalsely : Prop := feedSteadyRow.holds Try.pinned (OpenSpec.ofChange feedSteadyWrong)

/-- 'quartolaw28.FeedDrains': WHATEVER THE INPUT: true; the input reads as it did. -/
def feedDrainsSpec : ChangeSpec := { name := "feedDrains", fn := fun _ => fun
  | [d1, d2] => { results := [.lit (.bool true)], args := [d1, d2] }
  | _ => none }
def feedDrainsRow : OpenClaim := { program := "ytonjbofdmmnpdaa", sum := "61bcefd56fad1520d37e4729b093c509458456666c86a73a1b2dae0cecce799f", func := "quarto/quartolaw28.FeedDrains", spec := "feedDrains", inPlace := ["sync/atomic.LoadUint64", "sync/atomic.CompareAndSwapUint64", "sync/atomic.StoreUint64", "sync/atomic.SwapUint64"], unfollowed := true, recurses := true, apart := false }
def FeedDrainsSaid : Prop := feedDrainsRow.holds Try.pinned (OpenSpec.ofChange feedDrainsSpec)

/-- ITS FALSE NEIGHBOUR: 'it returns false'. Refute it at one input. -/
def feedDrainsWrong : ChangeSpec := { name := "feedDrains", fn := fun _ => fun
  | [d1, d2] => { results := [.lit (.bool false)], args := [d1, d2] }
  | _ => none }
def FeedDrainsWrongFalsely : Prop := feedDrainsRow.holds Try.pinned (OpenSpec.ofChange feedDrainsWrong)

/-- 'quartolaw28.FeedNew': WHATEVER THE INPUT: true; the input reads as it did. -/
def feedNewSpec : ChangeSpec := { name := "feedNew", fn := fun _ => fun
  | [d] => { results := [.lit (.bool true)], args := [d] }
  | _ => none }
def feedNewRow : OpenClaim := { program := "ytonjbofdmmnpdaa", sum := "61bcefd56fad1520d37e4729b093c509458456666c86a73a1b2dae0cecce799f", func := "quarto/quartolaw28.FeedNew", spec := "feedNew", inPlace := ["sync/atomic.LoadUint64", "sync/atomic.CompareAndSwapUint64", "sync/atomic.StoreUint64", "sync/atomic.SwapUint64"], unfollowed := true, recurses := true, apart := false }
def FeedNewSaid : Prop := feedNewRow.holds Try.pinned (OpenSpec.ofChange feedNewSpec)

/-- ITS FALSE NEIGHBOUR: 'it returns false'. Refute it at one input. -/
def feedNewWrong : ChangeSpec := { name := "feedNew", fn := fun _ => fun
  | [d] => { results := [.lit (.bool false)], args := [d] }
  | _ => none }
def FeedNewWrongFalsely : Prop := feedNewRow.holds Try.pinned (OpenSpec.ofChange feedNewWrong)

/-- 'quartolaw28.FeedNil': WHATEVER THE INPUT: true; the input reads as it did. -/
def feedNilSpec : ChangeSpec := { name := "feedNil", fn := fun _ => fun
  | [d1, d2] => { results := [.lit (.bool true)], args := [d1, d2] }
  | _ => none }
def feedNilRow : OpenClaim := { program := "ytonjbofdmmnpdaa", sum := "61bcefd56fad1520d37e4729b093c509458456666c86a73a1b2dae0cecce799f", func := "quarto/quartolaw28.FeedNil", spec := "feedNil", inPlace := ["sync/atomic.LoadUint64", "sync/atomic.CompareAndSwapUint64", "sync/atomic.StoreUint64", "sync/atomic.SwapUint64"], unfollowed := true, recurses := true, apart := false }
def FeedNilSaid : Prop := feedNilRow.holds Try.pinned (OpenSpec.ofChange feedNilSpec)

/-- ITS FALSE NEIGHBOUR: 'it returns false'. Refute it at one input. -/
def feedNilWrong : ChangeSpec := { name := "feedNil", fn := fun _ => fun
  | [d1, d2] => { results := [.lit (.bool false)], args := [d1, d2] }
  | _ => none }
def FeedNilWrongFalsely : Prop := feedNilRow.holds Try.pinned (OpenSpec.ofChange feedNilWrong)

/-- 'quartolaw28.FeedSteps': WHATEVER THE INPUT: true; the input reads as it did. -/
def feedStepsSpec : ChangeSpec := { name := "feedSteps", fn := fun _ => fun
  | [d1, d2] => { results := [.lit (.bool true)], args := [d1, d2] }
  | _ => none }
def feedStepsRow : OpenClaim := { program := "ytonjbofdmmnpdaa", sum := "61bcefd56fad1520d37e4729b093c509458456666c86a73a1b2dae0cecce799f", func := "quarto/quartolaw28.FeedSteps", spec := "feedSteps", inPlace := ["sync/atomic.LoadUint64", "sync/atomic.CompareAndSwapUint64", "sync/atomic.StoreUint64", "sync/atomic.SwapUint64"], unfollowed := true, recurses := true, apart := false }
def FeedStepsSaid : Prop := feedStepsRow.holds Try.pinned (OpenSpec.ofChange feedStepsSpec)

/-- ITS FALSE NEIGHBOUR: 'it returns false'. Refute it at one input. -/
def feedStepsWrong : ChangeSpec := { name := "feedSteps", fn := fun _ => fun
  | [d1, d2] => { results := [.lit (.bool false)], args := [d1, d2] }
  | _ => none }
def FeedStepsWrongFalsely : Prop := feedStepsRow.holds Try.pinned (OpenSpec.ofChange feedStepsWrong)

/- THE SECOND FORM. 'bulk': how many values and letters a reading holds, each counted each time it is reached (what is shared counts as often as it is met; a slice's spare places count too). A statement '..UptoSaid' is the law's where the arguments, and the package variables that the reading takes, are together of bulk at most 1048576: NARROWER than '..Said'. Prove '..Said' where nothing that the law and all that it calls make is longer than what came in: it says more and counts as full. Else prove '..UptoSaid'. A law counts once. -/
mutual
def uptoBulk {H : Type} : DataW H → Nat
  | .lit (.string bytes) => bytes.length + 1
  | .lit _ => 1
  | .nil => 1
  | .ptr d => uptoBulk d + 1
  | .slice elems spare => uptoBulkAll elems + uptoBulkAll spare + 1
  | .agg parts => uptoBulkAll parts + 1
  | .iface _ d => uptoBulk d + 1
  | .map entries => uptoBulkEntries entries + 1
  | .held _ => 1
def uptoBulkAll {H : Type} : List (DataW H) → Nat
  | [] => 0
  | d :: r => uptoBulk d + uptoBulkAll r
def uptoBulkEntries {H : Type} : List (Lit × DataW H) → Nat
  | [] => 0
  | x :: r => uptoBulkEntry x + uptoBulkEntries r
def uptoBulkEntry {H : Type} : Lit × DataW H → Nat
  | (.string bytes, d) => bytes.length + uptoBulk d + 1
  | (_, d) => uptoBulk d + 1
 end
def uptoSmall : (H : Type) → List (DataW H) → Bool := fun _ ds => decide (uptoBulkAll ds ≤ 1048576)
def OpenSpec.upto (s : _root_.Go.ChangeSpec) : _root_.Go.OpenSpec := { _root_.Go.OpenSpec.ofChange s with cond := some uptoSmall }

/-- 'quartolaw28.FeedRises', WHERE WHAT IT READS IS OF BULK AT MOST 1048576: true; the input reads as it did. -/
def feedRisesUptoRow : OpenClaim := { program := "ytonjbofdmmnpdaa", sum := "61bcefd56fad1520d37e4729b093c509458456666c86a73a1b2dae0cecce799f", func := "quarto/quartolaw28.FeedRises", spec := "feedRises", inPlace := ["sync/atomic.LoadUint64", "sync/atomic.CompareAndSwapUint64", "sync/atomic.StoreUint64", "sync/atomic.SwapUint64"], unfollowed := true, recurses := true, apart := false, narrowed := true }
def FeedRisesUptoSaid : Prop := feedRisesUptoRow.holds Try.pinned (OpenSpec.upto feedRisesSpec)

/-- 'quartolaw28.FeedGapless', WHERE WHAT IT READS IS OF BULK AT MOST 1048576: true; the input reads as it did. -/
def feedGaplessUptoRow : OpenClaim := { program := "ytonjbofdmmnpdaa", sum := "61bcefd56fad1520d37e4729b093c509458456666c86a73a1b2dae0cecce799f", func := "quarto/quartolaw28.FeedGapless", spec := "feedGapless", inPlace := ["sync/atomic.LoadUint64", "sync/atomic.CompareAndSwapUint64", "sync/atomic.StoreUint64", "sync/atomic.SwapUint64"], unfollowed := true, recurses := true, apart := false, narrowed := true }
def FeedGaplessUptoSaid : Prop := feedGaplessUptoRow.holds Try.pinned (OpenSpec.upto feedGaplessSpec)

/-- 'quartolaw28.FeedLags', WHERE WHAT IT READS IS OF BULK AT MOST 1048576: true; the input reads as it did. -/
def feedLagsUptoRow : OpenClaim := { program := "ytonjbofdmmnpdaa", sum := "61bcefd56fad1520d37e4729b093c509458456666c86a73a1b2dae0cecce799f", func := "quarto/quartolaw28.FeedLags", spec := "feedLags", inPlace := ["sync/atomic.LoadUint64", "sync/atomic.CompareAndSwapUint64", "sync/atomic.StoreUint64", "sync/atomic.SwapUint64"], unfollowed := true, recurses := true, apart := false, narrowed := true }
def FeedLagsUptoSaid : Prop := feedLagsUptoRow.holds Try.pinned (OpenSpec.upto feedLagsSpec)

/-- 'quartolaw28.FeedEmpties', WHERE WHAT IT READS IS OF BULK AT MOST 1048576: true; the input reads as it did. -/
def feedEmptiesUptoRow : OpenClaim := { program := "ytonjbofdmmnpdaa", sum := "61bcefd56fad1520d37e4729b093c509458456666c86a73a1b2dae0cecce799f", func := "quarto/quartolaw28.FeedEmpties", spec := "feedEmpties", inPlace := ["sync/atomic.LoadUint64", "sync/atomic.CompareAndSwapUint64", "sync/atomic.StoreUint64", "sync/atomic.SwapUint64"], unfollowed := true, recurses := true, apart := false, narrowed := true }
def FeedEmptiesUptoSaid : Prop := feedEmptiesUptoRow.holds Try.pinned (OpenSpec.upto feedEmptiesSpec)

/-- 'quartolaw28.FeedSteady', WHERE WHAT IT READS IS OF BULK AT MOST 1048576: true; the input reads as it did. -/
def feedSteadyUptoRow : OpenClaim := { program := "ytonjbofdmmnpdaa", sum := "61bcefd56fad1520d37e4729b093c509458456666c86a73a1b2dae0cecce799f", func := "quarto/quartolaw28.FeedSteady", spec := "feedSteady", inPlace := ["sync/atomic.LoadUint64", "sync/atomic.CompareAndSwapUint64", "sync/atomic.StoreUint64", "sync/atomic.SwapUint64"], unfollowed := true, recurses := true, apart := false, narrowed := true }
def FeedSteadyUptoSaid : Prop := feedSteadyUptoRow.holds Try.pinned (OpenSpec.upto feedSteadySpec)

/-- 'quartolaw28.FeedDrains', WHERE WHAT IT READS IS OF BULK AT MOST 1048576: true; the input reads as it did. -/
def feedDrainsUptoRow : OpenClaim := { program := "ytonjbofdmmnpdaa", sum := "61bcefd56fad1520d37e4729b093c509458456666c86a73a1b2dae0cecce799f", func := "quarto/quartolaw28.FeedDrains", spec := "feedDrains", inPlace := ["sync/atomic.LoadUint64", "sync/atomic.CompareAndSwapUint64", "sync/atomic.StoreUint64", "sync/atomic.SwapUint64"], unfollowed := true, recurses := true, apart := false, narrowed := true }
def FeedDrainsUptoSaid : Prop := feedDrainsUptoRow.holds Try.pinned (OpenSpec.upto feedDrainsSpec)

/-- 'quartolaw28.FeedNew', WHERE WHAT IT READS IS OF BULK AT MOST 1048576: true; the input reads as it did. -/
def feedNewUptoRow : OpenClaim := { program := "ytonjbofdmmnpdaa", sum := "61bcefd56fad1520d37e4729b093c509458456666c86a73a1b2dae0cecce799f", func := "quarto/quartolaw28.FeedNew", spec := "feedNew", inPlace := ["sync/atomic.LoadUint64", "sync/atomic.CompareAndSwapUint64", "sync/atomic.StoreUint64", "sync/atomic.SwapUint64"], unfollowed := true, recurses := true, apart := false, narrowed := true }
def FeedNewUptoSaid : Prop := feedNewUptoRow.holds Try.pinned (OpenSpec.upto feedNewSpec)

/-- 'quartolaw28.FeedNil', WHERE WHAT IT READS IS OF BULK AT MOST 1048576: true; the input reads as it did. -/
def feedNilUptoRow : OpenClaim := { program := "ytonjbofdmmnpdaa", sum := "61bcefd56fad1520d37e4729b093c509458456666c86a73a1b2dae0cecce799f", func := "quarto/quartolaw28.FeedNil", spec := "feedNil", inPlace := ["sync/atomic.LoadUint64", "sync/atomic.CompareAndSwapUint64", "sync/atomic.StoreUint64", "sync/atomic.SwapUint64"], unfollowed := true, recurses := true, apart := false, narrowed := true }
def FeedNilUptoSaid : Prop := feedNilUptoRow.holds Try.pinned (OpenSpec.upto feedNilSpec)

/-- 'quartolaw28.FeedSteps', WHERE WHAT IT READS IS OF BULK AT MOST 1048576: true; the input reads as it did. -/
def feedStepsUptoRow : OpenClaim := { program := "ytonjbofdmmnpdaa", sum := "61bcefd56fad1520d37e4729b093c509458456666c86a73a1b2dae0cecce799f", func := "quarto/quartolaw28.FeedSteps", spec := "feedSteps", inPlace := ["sync/atomic.LoadUint64", "sync/atomic.CompareAndSwapUint64", "sync/atomic.StoreUint64", "sync/atomic.SwapUint64"], unfollowed := true, recurses := true, apart := false, narrowed := true }
def FeedStepsUptoSaid : Prop := feedStepsUptoRow.holds Try.pinned (OpenSpec.upto feedStepsSpec)

end Rows
end Go.Proofs.Ytonjbofdmmnpdaa
