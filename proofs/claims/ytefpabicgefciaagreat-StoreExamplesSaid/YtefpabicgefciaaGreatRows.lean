/-
  No cell of these rows narrows 'for every input' (looked for: loops, veiled, ifaces, maps, wideKeys, modest, calm, conditions, laid).
  DERIVED. THE GIVEN ROWS OF THIS SEAT. 5 by the template 'for every input the law returns true; each argument reads behind the call as it read before'; 0 by the template 'total and deterministic' (their statements: YtefpabicgefciaaGreatTotals.lean).
  GIVEN WITH THE SEED: the statements are not yours to turn. If you find one false, say at which input.
  Laid BY PROGRAM, IN A SANDBOX (cutbox-rows.mjs): the forced cells as the released guide's own fill.sh prints them over the translation d2903d9e7d41cfc5… (all of the seat's roots in one cut). By AI agents, Wed Nov 11 2026. No macro, syntax, notation, axiom, sorry.
-/
import Derived.Test.YtefpabicgefciaaGreatChecked
import GoSem.Claim
import GoSem.ClaimJoined
import GoSem.ClaimMapViews
import Derived.JoinedTies
import Derived.KernelRfl
namespace Go.Proofs.YtefpabicgefciaaGreat
/- THE CELL 'sum', in the pinned program and in every row, IS THE sha256 OF THE DUMP (.gsa) THAT YtefpabicgefciaaGreatProg.lean LOADS. Nothing in Lean hashes anything: it is a label: what it is worth is what the hold of that sum in a sandbox is worth. -/
noncomputable def Tryz.pinned : Pinned := { name := "ytefpabicgefciaagreat", sum := "d2903d9e7d41cfc560cc42a5b3b9606ffe7c2f976e1899dde1b4775e633b1fee", checked := Tryz.checked }
namespace Rows
def none {H : Type} : Left H := { results := [], args := [] }

/-- 'quartolaw29.StoreNew': WHATEVER THE INPUT: true; the input reads as it did. -/
def storeNewSpec : ChangeSpec := { name := "storeNew", fn := fun _ => fun
  | [d] => { results := [.lit (.bool true)], args := [d] }
  | _ => none }
def storeNewRow : OpenClaim := { program := "ytefpabicgefciaagreat", sum := "d2903d9e7d41cfc560cc42a5b3b9606ffe7c2f976e1899dde1b4775e633b1fee", func := "quarto/quartolaw29.StoreNew", spec := "storeNew", inPlace := ["sync/atomic.LoadUint64"], unfollowed := true, recurses := true, apart := false }
def StoreNewSaid : Prop := storeNewRow.holds Tryz.pinned (OpenSpec.ofChange storeNewSpec)

/-- ITS FALSE NEIGHBOUR: 'it returns false'. Refute it at one input. -/
def storeNewWrong : ChangeSpec := { name := "storeNew", fn := fun _ => fun
  | [d] => { results := [.lit (.bool false)], args := [d] }
  | _ => none }
def StoreNewWrongFalsely : Prop := storeNewRow.holds Tryz.pinned (OpenSpec.ofChange storeNewWrong)

/-- 'quartolaw29.StoreChains': WHATEVER THE INPUT: true; the input reads as it did. -/
def storeChainsSpec : ChangeSpec := { name := "storeChains", fn := fun _ => fun
  | [d1, d2] => { results := [.lit (.bool true)], args := [d1, d2] }
  | _ => none }
def storeChainsRow : OpenClaim := { program := "ytefpabicgefciaagreat", sum := "d2903d9e7d41cfc560cc42a5b3b9606ffe7c2f976e1899dde1b4775e633b1fee", func := "quarto/quartolaw29.StoreChains", spec := "storeChains", inPlace := ["sync/atomic.LoadUint64", "internal/abi.NoEscape"], unfollowed := true, recurses := true, apart := false }
def StoreChainsSaid : Prop := storeChainsRow.holds Tryz.pinned (OpenSpec.ofChange storeChainsSpec)

/-- ITS FALSE NEIGHBOUR: 'it returns false'. Refute it at one input. -/
def storeChainsWrong : ChangeSpec := { name := "storeChains", fn := fun _ => fun
  | [d1, d2] => { results := [.lit (.bool false)], args := [d1, d2] }
  | _ => none }
def StoreChainsWrongFalsely : Prop := storeChainsRow.holds Tryz.pinned (OpenSpec.ofChange storeChainsWrong)

/-- 'quartolaw29.StoreMoves': WHATEVER THE INPUT: true; the input reads as it did. -/
def storeMovesSpec : ChangeSpec := { name := "storeMoves", fn := fun _ => fun
  | [d1, d2] => { results := [.lit (.bool true)], args := [d1, d2] }
  | _ => none }
def storeMovesRow : OpenClaim := { program := "ytefpabicgefciaagreat", sum := "d2903d9e7d41cfc560cc42a5b3b9606ffe7c2f976e1899dde1b4775e633b1fee", func := "quarto/quartolaw29.StoreMoves", spec := "storeMoves", inPlace := ["sync/atomic.LoadUint64", "internal/abi.NoEscape"], unfollowed := true, recurses := true, apart := false }
def StoreMovesSaid : Prop := storeMovesRow.holds Tryz.pinned (OpenSpec.ofChange storeMovesSpec)

/-- ITS FALSE NEIGHBOUR: 'it returns false'. Refute it at one input. -/
def storeMovesWrong : ChangeSpec := { name := "storeMoves", fn := fun _ => fun
  | [d1, d2] => { results := [.lit (.bool false)], args := [d1, d2] }
  | _ => none }
def StoreMovesWrongFalsely : Prop := storeMovesRow.holds Tryz.pinned (OpenSpec.ofChange storeMovesWrong)

/-- 'quartolaw29.StoreDeltas': WHATEVER THE INPUT: true; the input reads as it did. -/
def storeDeltasSpec : ChangeSpec := { name := "storeDeltas", fn := fun _ => fun
  | [d1, d2] => { results := [.lit (.bool true)], args := [d1, d2] }
  | _ => none }
def storeDeltasRow : OpenClaim := { program := "ytefpabicgefciaagreat", sum := "d2903d9e7d41cfc560cc42a5b3b9606ffe7c2f976e1899dde1b4775e633b1fee", func := "quarto/quartolaw29.StoreDeltas", spec := "storeDeltas", inPlace := ["sync/atomic.LoadUint64", "internal/abi.NoEscape"], unfollowed := true, recurses := true, apart := false }
def StoreDeltasSaid : Prop := storeDeltasRow.holds Tryz.pinned (OpenSpec.ofChange storeDeltasSpec)

/-- ITS FALSE NEIGHBOUR: 'it returns false'. Refute it at one input. -/
def storeDeltasWrong : ChangeSpec := { name := "storeDeltas", fn := fun _ => fun
  | [d1, d2] => { results := [.lit (.bool false)], args := [d1, d2] }
  | _ => none }
def StoreDeltasWrongFalsely : Prop := storeDeltasRow.holds Tryz.pinned (OpenSpec.ofChange storeDeltasWrong)

/-- 'quartolaw29.StoreExamples': WHATEVER THE INPUT: true; the input reads as it did. -/
def storeExamplesSpec : ChangeSpec := { name := "storeExamples", fn := fun _ => fun
  | [] => { results := [.lit (.bool true)], args := [] }
  | _ => none }
def storeExamplesRow : OpenClaim := { program := "ytefpabicgefciaagreat", sum := "d2903d9e7d41cfc560cc42a5b3b9606ffe7c2f976e1899dde1b4775e633b1fee", func := "quarto/quartolaw29.StoreExamples", spec := "storeExamples", inPlace := ["sync/atomic.LoadUint64", "internal/abi.NoEscape"], unfollowed := true, recurses := true, apart := false }
def StoreExamplesSaid : Prop := storeExamplesRow.holds Tryz.pinned (OpenSpec.ofChange storeExamplesSpec)

/-- ITS FALSE NEIGHBOUR: 'it returns false'. Refute it at one input. -/
def storeExamplesWrong : ChangeSpec := { name := "storeExamples", fn := fun _ => fun
  | [] => { results := [.lit (.bool false)], args := [] }
  | _ => none }
def StoreExamplesWrongFalsely : Prop := storeExamplesRow.holds Tryz.pinned (OpenSpec.ofChange storeExamplesWrong)

/- THE SECOND FORM. 'bulk': how many values and letters a reading holds, each counted each time it is reached (what is shared counts as often as it is met; a slice's spare places count too). A statement '..UptoSaid' is the law's where the arguments, and the package variables that the reading takes, are together of bulk at most 1048576: NARROWER than '..Said'. Prove '..Said' where nothing that the law and all that it calls make is longer than what came in: it says more and counts as full. Else prove '..UptoSaid'. A law counts once. -/
mutual
def uptoBulk {H : Type} : DataW H → Nat
  | .lit (.string bytes) => bytes.length + 1
  | .lit _ => 1
  | .nil => 1
  | .ptr d => uptoBulk d + 1
  | .slice elems spare => uptoBulkAll elems + uptoBulkAll spare + 1
  | .agg parts => uptoBulkAll parts + 1
  | .iface _ d => uptoBulk d + 1
  | .map entries => uptoBulkEntries entries + 1
  | .held _ => 1
def uptoBulkAll {H : Type} : List (DataW H) → Nat
  | [] => 0
  | d :: r => uptoBulk d + uptoBulkAll r
def uptoBulkEntries {H : Type} : List (Lit × DataW H) → Nat
  | [] => 0
  | x :: r => uptoBulkEntry x + uptoBulkEntries r
def uptoBulkEntry {H : Type} : Lit × DataW H → Nat
  | (.string bytes, d) => bytes.length + uptoBulk d + 1
  | (_, d) => uptoBulk d + 1
 end
def uptoSmall : (H : Type) → List (DataW H) → Bool := fun _ ds => decide (uptoBulkAll ds ≤ 1048576)
def OpenSpec.upto (s : _root_.Go.ChangeSpec) : _root_.Go.OpenSpec := { _root_.Go.OpenSpec.ofChange s with cond := some uptoSmall }

/-- 'quartolaw29.StoreNew', WHERE WHAT IT READS IS OF BULK AT MOST 1048576: true; the input reads as it did. -/
def storeNewUptoRow : OpenClaim := { program := "ytefpabicgefciaagreat", sum := "d2903d9e7d41cfc560cc42a5b3b9606ffe7c2f976e1899dde1b4775e633b1fee", func := "quarto/quartolaw29.StoreNew", spec := "storeNew", inPlace := ["sync/atomic.LoadUint64"], unfollowed := true, recurses := true, apart := false, narrowed := true }
def StoreNewUptoSaid : Prop := storeNewUptoRow.holds Tryz.pinned (OpenSpec.upto storeNewSpec)

/-- 'quartolaw29.StoreChains', WHERE WHAT IT READS IS OF BULK AT MOST 1048576: true; the input reads as it did. -/
def storeChainsUptoRow : OpenClaim := { program := "ytefpabicgefciaagreat", sum := "d2903d9e7d41cfc560cc42a5b3b9606ffe7c2f976e1899dde1b4775e633b1fee", func := "quarto/quartolaw29.StoreChains", spec := "storeChains", inPlace := ["sync/atomic.LoadUint64", "internal/abi.NoEscape"], unfollowed := true, recurses := true, apart := false, narrowed := true }
def StoreChainsUptoSaid : Prop := storeChainsUptoRow.holds Tryz.pinned (OpenSpec.upto storeChainsSpec)

/-- 'quartolaw29.StoreMoves', WHERE WHAT IT READS IS OF BULK AT MOST 1048576: true; the input reads as it did. -/
def storeMovesUptoRow : OpenClaim := { program := "ytefpabicgefciaagreat", sum := "d2903d9e7d41cfc560cc42a5b3b9606ffe7c2f976e1899dde1b4775e633b1fee", func := "quarto/quartolaw29.StoreMoves", spec := "storeMoves", inPlace := ["sync/atomic.LoadUint64", "internal/abi.NoEscape"], unfollowed := true, recurses := true, apart := false, narrowed := true }
def StoreMovesUptoSaid : Prop := storeMovesUptoRow.holds Tryz.pinned (OpenSpec.upto storeMovesSpec)

/-- 'quartolaw29.StoreDeltas', WHERE WHAT IT READS IS OF BULK AT MOST 1048576: true; the input reads as it did. -/
def storeDeltasUptoRow : OpenClaim := { program := "ytefpabicgefciaagreat", sum := "d2903d9e7d41cfc560cc42a5b3b9606ffe7c2f976e1899dde1b4775e633b1fee", func := "quarto/quartolaw29.StoreDeltas", spec := "storeDeltas", inPlace := ["sync/atomic.LoadUint64", "internal/abi.NoEscape"], unfollowed := true, recurses := true, apart := false, narrowed := true }
def StoreDeltasUptoSaid : Prop := storeDeltasUptoRow.holds Tryz.pinned (OpenSpec.upto storeDeltasSpec)

/-- 'quartolaw29.StoreExamples', WHERE WHAT IT READS IS OF BULK AT MOST 1048576: true; the input reads as it did. -/
def storeExamplesUptoRow : OpenClaim := { program := "ytefpabicgefciaagreat", sum := "d2903d9e7d41cfc560cc42a5b3b9606ffe7c2f976e1899dde1b4775e633b1fee", func := "quarto/quartolaw29.StoreExamples", spec := "storeExamples", inPlace := ["sync/atomic.LoadUint64", "internal/abi.NoEscape"], unfollowed := true, recurses := true, apart := false, narrowed := true }
def StoreExamplesUptoSaid : Prop := storeExamplesUptoRow.holds Tryz.pinned (OpenSpec.upto storeExamplesSpec)

end Rows
end Go.Proofs.YtefpabicgefciaaGreat
