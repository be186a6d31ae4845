/-
  No cell of these rows narrows 'for every input' (looked for: loops, veiled, ifaces, maps, wideKeys, modest, calm, conditions, laid).
  DERIVED. THE GIVEN ROWS OF THIS SEAT. 9 by the template 'for every input the law returns true; each argument reads behind the call as it read before'; 0 by the template 'total and deterministic' (their statements: YtnoaeeiekblpbaaTotals.lean).
  GIVEN WITH THE SEED: the statements are not yours to turn. If you find one false, say at which input.
  Laid BY PROGRAM, IN A SANDBOX (cutbox-rows.mjs): the forced cells as the released guide's own fill.sh prints them over the translation 7340274a2c8faf2d… (all of the seat's roots in one cut). By AI agents, Wed Nov 11 2026. No macro, syntax, notation, axiom, sorry.
-/
import Derived.Test.YtnoaeeiekblpbaaChecked
import GoSem.Claim
import GoSem.ClaimJoined
import GoSem.ClaimMapViews
import Derived.JoinedTies
import Derived.KernelRfl
namespace Go.Proofs.Ytnoaeeiekblpbaa
/- THE CELL 'sum', in the pinned program and in every row, IS THE sha256 OF THE DUMP (.gsa) THAT YtnoaeeiekblpbaaProg.lean LOADS. Nothing in Lean hashes anything: it is a label: what it is worth is what the hold of that sum in a sandbox is worth. -/
noncomputable def Try.pinned : Pinned := { name := "ytnoaeeiekblpbaa", sum := "7340274a2c8faf2d26f7fdde33a1f3dfabe398978371ce57454d76b72e00e79c", checked := Try.checked }
namespace Rows
def none {H : Type} : Left H := { results := [], args := [] }

/-- 'quartolaw23.CellReplays': WHATEVER THE INPUT: true; the input reads as it did. -/
def cellReplaysSpec : ChangeSpec := { name := "cellReplays", fn := fun _ => fun
  | [d1, d2] => { results := [.lit (.bool true)], args := [d1, d2] }
  | _ => none }
def cellReplaysRow : OpenClaim := { program := "ytnoaeeiekblpbaa", sum := "7340274a2c8faf2d26f7fdde33a1f3dfabe398978371ce57454d76b72e00e79c", func := "quarto/quartolaw23.CellReplays", spec := "cellReplays", apart := false }
def CellReplaysSaid : Prop := cellReplaysRow.holds Try.pinned (OpenSpec.ofChange cellReplaysSpec)

/-- ITS FALSE NEIGHBOUR: 'it returns false'. Refute it at one input. -/
def cellReplaysWrong : ChangeSpec := { name := "cellReplays", fn := fun _ => fun
  | [d1, d2] => { results := [.lit (.bool false)], args := [d1, d2] }
  | _ => none }
def CellReplaysWrongFalsely : Prop := cellReplaysRow.holds Try.pinned (OpenSpec.ofChange cellReplaysWrong)

/-- 'quartolaw23.CellAdds': WHATEVER THE INPUT: true; the input reads as it did. -/
def cellAddsSpec : ChangeSpec := { name := "cellAdds", fn := fun _ => fun
  | [d1, d2] => { results := [.lit (.bool true)], args := [d1, d2] }
  | _ => none }
def cellAddsRow : OpenClaim := { program := "ytnoaeeiekblpbaa", sum := "7340274a2c8faf2d26f7fdde33a1f3dfabe398978371ce57454d76b72e00e79c", func := "quarto/quartolaw23.CellAdds", spec := "cellAdds", inPlace := ["sync/atomic.AddUint64", "sync/atomic.LoadUint64"], apart := false }
def CellAddsSaid : Prop := cellAddsRow.holds Try.pinned (OpenSpec.ofChange cellAddsSpec)

/-- ITS FALSE NEIGHBOUR: 'it returns false'. Refute it at one input. -/
def cellAddsWrong : ChangeSpec := { name := "cellAdds", fn := fun _ => fun
  | [d1, d2] => { results := [.lit (.bool false)], args := [d1, d2] }
  | _ => none }
def CellAddsWrongFalsely : Prop := cellAddsRow.holds Try.pinned (OpenSpec.ofChange cellAddsWrong)

/-- 'quartolaw23.CellWins': WHATEVER THE INPUT: true; the input reads as it did. -/
def cellWinsSpec : ChangeSpec := { name := "cellWins", fn := fun _ => fun
  | [d] => { results := [.lit (.bool true)], args := [d] }
  | _ => none }
def cellWinsRow : OpenClaim := { program := "ytnoaeeiekblpbaa", sum := "7340274a2c8faf2d26f7fdde33a1f3dfabe398978371ce57454d76b72e00e79c", func := "quarto/quartolaw23.CellWins", spec := "cellWins", inPlace := ["sync/atomic.LoadUint64", "sync/atomic.CompareAndSwapUint64"], apart := false }
def CellWinsSaid : Prop := cellWinsRow.holds Try.pinned (OpenSpec.ofChange cellWinsSpec)

/-- ITS FALSE NEIGHBOUR: 'it returns false'. Refute it at one input. -/
def cellWinsWrong : ChangeSpec := { name := "cellWins", fn := fun _ => fun
  | [d] => { results := [.lit (.bool false)], args := [d] }
  | _ => none }
def CellWinsWrongFalsely : Prop := cellWinsRow.holds Try.pinned (OpenSpec.ofChange cellWinsWrong)

/-- 'quartolaw23.CellConsistent': WHATEVER THE INPUT: true; the input reads as it did. -/
def cellConsistentSpec : ChangeSpec := { name := "cellConsistent", fn := fun _ => fun
  | [d1, d2] => { results := [.lit (.bool true)], args := [d1, d2] }
  | _ => none }
def cellConsistentRow : OpenClaim := { program := "ytnoaeeiekblpbaa", sum := "7340274a2c8faf2d26f7fdde33a1f3dfabe398978371ce57454d76b72e00e79c", func := "quarto/quartolaw23.CellConsistent", spec := "cellConsistent", inPlace := ["sync/atomic.LoadUint64", "sync/atomic.StoreUint64", "sync/atomic.AddUint64", "sync/atomic.SwapUint64", "sync/atomic.CompareAndSwapUint64"], apart := false }
def CellConsistentSaid : Prop := cellConsistentRow.holds Try.pinned (OpenSpec.ofChange cellConsistentSpec)

/-- ITS FALSE NEIGHBOUR: 'it returns false'. Refute it at one input. -/
def cellConsistentWrong : ChangeSpec := { name := "cellConsistent", fn := fun _ => fun
  | [d1, d2] => { results := [.lit (.bool false)], args := [d1, d2] }
  | _ => none }
def CellConsistentWrongFalsely : Prop := cellConsistentRow.holds Try.pinned (OpenSpec.ofChange cellConsistentWrong)

/-- 'quartolaw23.CellSteps': WHATEVER THE INPUT: true; the input reads as it did. -/
def cellStepsSpec : ChangeSpec := { name := "cellSteps", fn := fun _ => fun
  | [d1, d2] => { results := [.lit (.bool true)], args := [d1, d2] }
  | _ => none }
def cellStepsRow : OpenClaim := { program := "ytnoaeeiekblpbaa", sum := "7340274a2c8faf2d26f7fdde33a1f3dfabe398978371ce57454d76b72e00e79c", func := "quarto/quartolaw23.CellSteps", spec := "cellSteps", inPlace := ["sync/atomic.LoadUint64", "sync/atomic.StoreUint64", "sync/atomic.AddUint64", "sync/atomic.SwapUint64", "sync/atomic.CompareAndSwapUint64"], apart := false }
def CellStepsSaid : Prop := cellStepsRow.holds Try.pinned (OpenSpec.ofChange cellStepsSpec)

/-- ITS FALSE NEIGHBOUR: 'it returns false'. Refute it at one input. -/
def cellStepsWrong : ChangeSpec := { name := "cellSteps", fn := fun _ => fun
  | [d1, d2] => { results := [.lit (.bool false)], args := [d1, d2] }
  | _ => none }
def CellStepsWrongFalsely : Prop := cellStepsRow.holds Try.pinned (OpenSpec.ofChange cellStepsWrong)

/-- 'quartolaw23.CellLogs': WHATEVER THE INPUT: true; the input reads as it did. -/
def cellLogsSpec : ChangeSpec := { name := "cellLogs", fn := fun _ => fun
  | [d1, d2, d3] => { results := [.lit (.bool true)], args := [d1, d2, d3] }
  | _ => none }
def cellLogsRow : OpenClaim := { program := "ytnoaeeiekblpbaa", sum := "7340274a2c8faf2d26f7fdde33a1f3dfabe398978371ce57454d76b72e00e79c", func := "quarto/quartolaw23.CellLogs", spec := "cellLogs", inPlace := ["sync/atomic.LoadUint64", "sync/atomic.StoreUint64", "sync/atomic.AddUint64", "sync/atomic.SwapUint64", "sync/atomic.CompareAndSwapUint64"], apart := false }
def CellLogsSaid : Prop := cellLogsRow.holds Try.pinned (OpenSpec.ofChange cellLogsSpec)

/-- ITS FALSE NEIGHBOUR: 'it returns false'. Refute it at one input. -/
def cellLogsWrong : ChangeSpec := { name := "cellLogs", fn := fun _ => fun
  | [d1, d2, d3] => { results := [.lit (.bool false)], args := [d1, d2, d3] }
  | _ => none }
def CellLogsWrongFalsely : Prop := cellLogsRow.holds Try.pinned (OpenSpec.ofChange cellLogsWrong)

/-- 'quartolaw23.CellSpoilt': WHATEVER THE INPUT: true; the input reads as it did. -/
def cellSpoiltSpec : ChangeSpec := { name := "cellSpoilt", fn := fun _ => fun
  | [d1, d2, d3] => { results := [.lit (.bool true)], args := [d1, d2, d3] }
  | _ => none }
def cellSpoiltRow : OpenClaim := { program := "ytnoaeeiekblpbaa", sum := "7340274a2c8faf2d26f7fdde33a1f3dfabe398978371ce57454d76b72e00e79c", func := "quarto/quartolaw23.CellSpoilt", spec := "cellSpoilt", inPlace := ["sync/atomic.LoadUint64", "sync/atomic.StoreUint64", "sync/atomic.AddUint64", "sync/atomic.SwapUint64", "sync/atomic.CompareAndSwapUint64"], apart := false }
def CellSpoiltSaid : Prop := cellSpoiltRow.holds Try.pinned (OpenSpec.ofChange cellSpoiltSpec)

/-- ITS FALSE NEIGHBOUR: 'it returns false'. Refute it at one input. -/
def cellSpoiltWrong : ChangeSpec := { name := "cellSpoilt", fn := fun _ => fun
  | [d1, d2, d3] => { results := [.lit (.bool false)], args := [d1, d2, d3] }
  | _ => none }
def CellSpoiltWrongFalsely : Prop := cellSpoiltRow.holds Try.pinned (OpenSpec.ofChange cellSpoiltWrong)

/-- 'quartolaw23.CellReplayed': WHATEVER THE INPUT: true; the input reads as it did. -/
def cellReplayedSpec : ChangeSpec := { name := "cellReplayed", fn := fun _ => fun
  | [d1, d2] => { results := [.lit (.bool true)], args := [d1, d2] }
  | _ => none }
def cellReplayedRow : OpenClaim := { program := "ytnoaeeiekblpbaa", sum := "7340274a2c8faf2d26f7fdde33a1f3dfabe398978371ce57454d76b72e00e79c", func := "quarto/quartolaw23.CellReplayed", spec := "cellReplayed", inPlace := ["sync/atomic.LoadUint64", "sync/atomic.StoreUint64", "sync/atomic.AddUint64", "sync/atomic.SwapUint64", "sync/atomic.CompareAndSwapUint64"], apart := false }
def CellReplayedSaid : Prop := cellReplayedRow.holds Try.pinned (OpenSpec.ofChange cellReplayedSpec)

/-- ITS FALSE NEIGHBOUR: 'it returns false'. Refute it at one input. -/
def cellReplayedWrong : ChangeSpec := { name := "cellReplayed", fn := fun _ => fun
  | [d1, d2] => { results := [.lit (.bool false)], args := [d1, d2] }
  | _ => none }
def CellReplayedWrongFalsely : Prop := cellReplayedRow.holds Try.pinned (OpenSpec.ofChange cellReplayedWrong)

/-- 'quartolaw23.CellExamples': WHATEVER THE INPUT: true; the input reads as it did. -/
def cellExamplesSpec : ChangeSpec := { name := "cellExamples", fn := fun _ => fun
  | [] => { results := [.lit (.bool true)], args := [] }
  | _ => none }
def cellExamplesRow : OpenClaim := { program := "ytnoaeeiekblpbaa", sum := "7340274a2c8faf2d26f7fdde33a1f3dfabe398978371ce57454d76b72e00e79c", func := "quarto/quartolaw23.CellExamples", spec := "cellExamples", inPlace := ["sync/atomic.AddUint64", "sync/atomic.LoadUint64", "sync/atomic.CompareAndSwapUint64", "sync/atomic.SwapUint64", "sync/atomic.StoreUint64"], apart := false }
def CellExamplesSaid : Prop := cellExamplesRow.holds Try.pinned (OpenSpec.ofChange cellExamplesSpec)

/-- ITS FALSE NEIGHBOUR: 'it returns false'. Refute it at one input. -/
def cellExamplesWrong : ChangeSpec := { name := "cellExamples", fn := fun _ => fun
  | [] => { results := [.lit (.bool false)], args := [] }
  | _ => none }
def CellExamplesWrongFalsely : Prop := cellExamplesRow.holds Try.pinned (OpenSpec.ofChange cellExamplesWrong)

/- THE SECOND FORM. 'bulk': how many values and letters a reading holds, each counted each time it is reached (what is shared counts as often as it is met; a slice's spare places count too). A statement '..UptoSaid' is the law's where the arguments, and the package variables that the reading takes, are together of bulk at most 1048576: NARROWER than '..Said'. Prove '..Said' where nothing that the law and all that it calls make is longer than what came in: it says more and counts as full. Else prove '..UptoSaid'. A law counts once. -/
mutual
def uptoBulk {H : Type} : DataW H → Nat
  | .lit (.string bytes) => bytes.length + 1
  | .lit _ => 1
  | .nil => 1
  | .ptr d => uptoBulk d + 1
  | .slice elems spare => uptoBulkAll elems + uptoBulkAll spare + 1
  | .agg parts => uptoBulkAll parts + 1
  | .iface _ d => uptoBulk d + 1
  | .map entries => uptoBulkEntries entries + 1
  | .held _ => 1
def uptoBulkAll {H : Type} : List (DataW H) → Nat
  | [] => 0
  | d :: r => uptoBulk d + uptoBulkAll r
def uptoBulkEntries {H : Type} : List (Lit × DataW H) → Nat
  | [] => 0
  | x :: r => uptoBulkEntry x + uptoBulkEntries r
def uptoBulkEntry {H : Type} : Lit × DataW H → Nat
  | (.string bytes, d) => bytes.length + uptoBulk d + 1
  | (_, d) => uptoBulk d + 1
 end
def uptoSmall : (H : Type) → List (DataW H) → Bool := fun _ ds => decide (uptoBulkAll ds ≤ 1048576)
def OpenSpec.upto (s : _root_.Go.ChangeSpec) : _root_.Go.OpenSpec := { _root_.Go.OpenSpec.ofChange s with cond := some uptoSmall }

/-- 'quartolaw23.CellReplays', WHERE WHAT IT READS IS OF BULK AT MOST 1048576: true; the input reads as it did. -/
def cellReplaysUptoRow : OpenClaim := { program := "ytnoaeeiekblpbaa", sum := "7340274a2c8faf2d26f7fdde33a1f3dfabe398978371ce57454d76b72e00e79c", func := "quarto/quartolaw23.CellReplays", spec := "cellReplays", apart := false, narrowed := true }
def CellReplaysUptoSaid : Prop := cellReplaysUptoRow.holds Try.pinned (OpenSpec.upto cellReplaysSpec)

/-- 'quartolaw23.CellAdds', WHERE WHAT IT READS IS OF BULK AT MOST 1048576: true; the input reads as it did. -/
def cellAddsUptoRow : OpenClaim := { program := "ytnoaeeiekblpbaa", sum := "7340274a2c8faf2d26f7fdde33a1f3dfabe398978371ce57454d76b72e00e79c", func := "quarto/quartolaw23.CellAdds", spec := "cellAdds", inPlace := ["sync/atomic.AddUint64", "sync/atomic.LoadUint64"], apart := false, narrowed := true }
def CellAddsUptoSaid : Prop := cellAddsUptoRow.holds Try.pinned (OpenSpec.upto cellAddsSpec)

/-- 'quartolaw23.CellWins', WHERE WHAT IT READS IS OF BULK AT MOST 1048576: true; the input reads as it did. -/
def cellWinsUptoRow : OpenClaim := { program := "ytnoaeeiekblpbaa", sum := "7340274a2c8faf2d26f7fdde33a1f3dfabe398978371ce57454d76b72e00e79c", func := "quarto/quartolaw23.CellWins", spec := "cellWins", inPlace := ["sync/atomic.LoadUint64", "sync/atomic.CompareAndSwapUint64"], apart := false, narrowed := true }
def CellWinsUptoSaid : Prop := cellWinsUptoRow.holds Try.pinned (OpenSpec.upto cellWinsSpec)

/-- 'quartolaw23.CellConsistent', WHERE WHAT IT READS IS OF BULK AT MOST 1048576: true; the input reads as it did. -/
def cellConsistentUptoRow : OpenClaim := { program := "ytnoaeeiekblpbaa", sum := "7340274a2c8faf2d26f7fdde33a1f3dfabe398978371ce57454d76b72e00e79c", func := "quarto/quartolaw23.CellConsistent", spec := "cellConsistent", inPlace := ["sync/atomic.LoadUint64", "sync/atomic.StoreUint64", "sync/atomic.AddUint64", "sync/atomic.SwapUint64", "sync/atomic.CompareAndSwapUint64"], apart := false, narrowed := true }
def CellConsistentUptoSaid : Prop := cellConsistentUptoRow.holds Try.pinned (OpenSpec.upto cellConsistentSpec)

/-- 'quartolaw23.CellSteps', WHERE WHAT IT READS IS OF BULK AT MOST 1048576: true; the input reads as it did. -/
def cellStepsUptoRow : OpenClaim := { program := "ytnoaeeiekblpbaa", sum := "7340274a2c8faf2d26f7fdde33a1f3dfabe398978371ce57454d76b72e00e79c", func := "quarto/quartolaw23.CellSteps", spec := "cellSteps", inPlace := ["sync/atomic.LoadUint64", "sync/atomic.StoreUint64", "sync/atomic.AddUint64", "sync/atomic.SwapUint64", "sync/atomic.CompareAndSwapUint64"], apart := false, narrowed := true }
def CellStepsUptoSaid : Prop := cellStepsUptoRow.holds Try.pinned (OpenSpec.upto cellStepsSpec)

/-- 'quartolaw23.CellLogs', WHERE WHAT IT READS IS OF BULK AT MOST 1048576: true; the input reads as it did. -/
def cellLogsUptoRow : OpenClaim := { program := "ytnoaeeiekblpbaa", sum := "7340274a2c8faf2d26f7fdde33a1f3dfabe398978371ce57454d76b72e00e79c", func := "quarto/quartolaw23.CellLogs", spec := "cellLogs", inPlace := ["sync/atomic.LoadUint64", "sync/atomic.StoreUint64", "sync/atomic.AddUint64", "sync/atomic.SwapUint64", "sync/atomic.CompareAndSwapUint64"], apart := false, narrowed := true }
def CellLogsUptoSaid : Prop := cellLogsUptoRow.holds Try.pinned (OpenSpec.upto cellLogsSpec)

/-- 'quartolaw23.CellSpoilt', WHERE WHAT IT READS IS OF BULK AT MOST 1048576: true; the input reads as it did. -/
def cellSpoiltUptoRow : OpenClaim := { program := "ytnoaeeiekblpbaa", sum := "7340274a2c8faf2d26f7fdde33a1f3dfabe398978371ce57454d76b72e00e79c", func := "quarto/quartolaw23.CellSpoilt", spec := "cellSpoilt", inPlace := ["sync/atomic.LoadUint64", "sync/atomic.StoreUint64", "sync/atomic.AddUint64", "sync/atomic.SwapUint64", "sync/atomic.CompareAndSwapUint64"], apart := false, narrowed := true }
def CellSpoiltUptoSaid : Prop := cellSpoiltUptoRow.holds Try.pinned (OpenSpec.upto cellSpoiltSpec)

/-- 'quartolaw23.CellReplayed', WHERE WHAT IT READS IS OF BULK AT MOST 1048576: true; the input reads as it did. -/
def cellReplayedUptoRow : OpenClaim := { program := "ytnoaeeiekblpbaa", sum := "7340274a2c8faf2d26f7fdde33a1f3dfabe398978371ce57454d76b72e00e79c", func := "quarto/quartolaw23.CellReplayed", spec := "cellReplayed", inPlace := ["sync/atomic.LoadUint64", "sync/atomic.StoreUint64", "sync/atomic.AddUint64", "sync/atomic.SwapUint64", "sync/atomic.CompareAndSwapUint64"], apart := false, narrowed := true }
def CellReplayedUptoSaid : Prop := cellReplayedUptoRow.holds Try.pinned (OpenSpec.upto cellReplayedSpec)

/-- 'quartolaw23.CellExamples', WHERE WHAT IT READS IS OF BULK AT MOST 1048576: true; the input reads as it did. -/
def cellExamplesUptoRow : OpenClaim := { program := "ytnoaeeiekblpbaa", sum := "7340274a2c8faf2d26f7fdde33a1f3dfabe398978371ce57454d76b72e00e79c", func := "quarto/quartolaw23.CellExamples", spec := "cellExamples", inPlace := ["sync/atomic.AddUint64", "sync/atomic.LoadUint64", "sync/atomic.CompareAndSwapUint64", "sync/atomic.SwapUint64", "sync/atomic.StoreUint64"], apart := false, narrowed := true }
def CellExamplesUptoSaid : Prop := cellExamplesUptoRow.holds Try.pinned (OpenSpec.upto cellExamplesSpec)

end Rows
end Go.Proofs.Ytnoaeeiekblpbaa
