/-
  No cell of these rows narrows 'for every input' (looked for: loops, veiled, ifaces, maps, wideKeys, modest, calm, conditions, laid).
  DERIVED. THE GIVEN ROWS OF THIS SEAT. 7 by the template 'for every input the law returns true; each argument reads behind the call as it read before'; 0 by the template 'total and deterministic' (their statements: YtokcodeeaneeaaaTotals.lean).
  GIVEN WITH THE SEED: the statements are not yours to turn. If you find one false, say at which input.
  Laid BY PROGRAM, IN A SANDBOX (cutbox-rows.mjs): the forced cells as the released guide's own fill.sh prints them over the translation 387f2578cab0f32f… (all of the seat's roots in one cut). By AI agents, Wed Nov 11 2026. No macro, syntax, notation, axiom, sorry.
-/
import Derived.Test.YtokcodeeaneeaaaChecked
import GoSem.Claim
import GoSem.ClaimJoined
import GoSem.ClaimMapViews
import Derived.JoinedTies
import Derived.KernelRfl
namespace Go.Proofs.Ytokcodeeaneeaaa
/- THE CELL 'sum', in the pinned program and in every row, IS THE sha256 OF THE DUMP (.gsa) THAT YtokcodeeaneeaaaProg.lean LOADS. Nothing in Lean hashes anything: it is a label: what it is worth is what the hold of that sum in a sandbox is worth. -/
noncomputable def Try.pinned : Pinned := { name := "ytokcodeeaneeaaa", sum := "387f2578cab0f32f6eb288f9116f5cd29778fbae9a1e0d2ff25dc71a89708898", checked := Try.checked }
namespace Rows
def none {H : Type} : Left H := { results := [], args := [] }

/-- 'quartolaw27.EpochNew': WHATEVER THE INPUT: true; the input reads as it did. -/
def epochNewSpec : ChangeSpec := { name := "epochNew", fn := fun _ => fun
  | [d] => { results := [.lit (.bool true)], args := [d] }
  | _ => none }
def epochNewRow : OpenClaim := { program := "ytokcodeeaneeaaa", sum := "387f2578cab0f32f6eb288f9116f5cd29778fbae9a1e0d2ff25dc71a89708898", func := "quarto/quartolaw27.EpochNew", spec := "epochNew", inPlace := ["sync/atomic.LoadUint64", "sync/atomic.StoreUint64"], unfollowed := true, recurses := true, apart := false }
def EpochNewSaid : Prop := epochNewRow.holds Try.pinned (OpenSpec.ofChange epochNewSpec)

/-- ITS FALSE NEIGHBOUR: 'it returns false'. Refute it at one input. -/
def epochNewWrong : ChangeSpec := { name := "epochNew", fn := fun _ => fun
  | [d] => { results := [.lit (.bool false)], args := [d] }
  | _ => none }
def EpochNewWrongFalsely : Prop := epochNewRow.holds Try.pinned (OpenSpec.ofChange epochNewWrong)

/-- 'quartolaw27.EpochSteps': WHATEVER THE INPUT: true; the input reads as it did. -/
def epochStepsSpec : ChangeSpec := { name := "epochSteps", fn := fun _ => fun
  | [d1, d2] => { results := [.lit (.bool true)], args := [d1, d2] }
  | _ => none }
def epochStepsRow : OpenClaim := { program := "ytokcodeeaneeaaa", sum := "387f2578cab0f32f6eb288f9116f5cd29778fbae9a1e0d2ff25dc71a89708898", func := "quarto/quartolaw27.EpochSteps", spec := "epochSteps", inPlace := ["sync/atomic.LoadUint64", "sync/atomic.StoreUint64"], unfollowed := true, recurses := true, apart := false }
def EpochStepsSaid : Prop := epochStepsRow.holds Try.pinned (OpenSpec.ofChange epochStepsSpec)

/-- ITS FALSE NEIGHBOUR: 'it returns false'. Refute it at one input. -/
def epochStepsWrong : ChangeSpec := { name := "epochSteps", fn := fun _ => fun
  | [d1, d2] => { results := [.lit (.bool false)], args := [d1, d2] }
  | _ => none }
def EpochStepsWrongFalsely : Prop := epochStepsRow.holds Try.pinned (OpenSpec.ofChange epochStepsWrong)

/-- 'quartolaw27.EpochGrace': WHATEVER THE INPUT: true; the input reads as it did. -/
def epochGraceSpec : ChangeSpec := { name := "epochGrace", fn := fun _ => fun
  | [d1, d2] => { results := [.lit (.bool true)], args := [d1, d2] }
  | _ => none }
def epochGraceRow : OpenClaim := { program := "ytokcodeeaneeaaa", sum := "387f2578cab0f32f6eb288f9116f5cd29778fbae9a1e0d2ff25dc71a89708898", func := "quarto/quartolaw27.EpochGrace", spec := "epochGrace", inPlace := ["sync/atomic.LoadUint64", "sync/atomic.StoreUint64"], unfollowed := true, recurses := true, apart := false }
def EpochGraceSaid : Prop := epochGraceRow.holds Try.pinned (OpenSpec.ofChange epochGraceSpec)

/-- ITS FALSE NEIGHBOUR: 'it returns false'. Refute it at one input. -/
def epochGraceWrong : ChangeSpec := { name := "epochGrace", fn := fun _ => fun
  | [d1, d2] => { results := [.lit (.bool false)], args := [d1, d2] }
  | _ => none }
def EpochGraceWrongFalsely : Prop := epochGraceRow.holds Try.pinned (OpenSpec.ofChange epochGraceWrong)

/-- 'quartolaw27.EpochStalls': WHATEVER THE INPUT: true; the input reads as it did. -/
def epochStallsSpec : ChangeSpec := { name := "epochStalls", fn := fun _ => fun
  | [d1, d2, d3] => { results := [.lit (.bool true)], args := [d1, d2, d3] }
  | _ => none }
def epochStallsRow : OpenClaim := { program := "ytokcodeeaneeaaa", sum := "387f2578cab0f32f6eb288f9116f5cd29778fbae9a1e0d2ff25dc71a89708898", func := "quarto/quartolaw27.EpochStalls", spec := "epochStalls", inPlace := ["sync/atomic.LoadUint64", "sync/atomic.StoreUint64"], unfollowed := true, recurses := true, apart := false }
def EpochStallsSaid : Prop := epochStallsRow.holds Try.pinned (OpenSpec.ofChange epochStallsSpec)

/-- ITS FALSE NEIGHBOUR: 'it returns false'. Refute it at one input. -/
def epochStallsWrong : ChangeSpec := { name := "epochStalls", fn := fun _ => fun
  | [d1, d2, d3] => { results := [.lit (.bool false)], args := [d1, d2, d3] }
  | _ => none }
def EpochStallsWrongFalsely : Prop := epochStallsRow.holds Try.pinned (OpenSpec.ofChange epochStallsWrong)

/-- 'quartolaw27.EpochSettles': WHATEVER THE INPUT: true; the input reads as it did. -/
def epochSettlesSpec : ChangeSpec := { name := "epochSettles", fn := fun _ => fun
  | [d1, d2] => { results := [.lit (.bool true)], args := [d1, d2] }
  | _ => none }
def epochSettlesRow : OpenClaim := { program := "ytokcodeeaneeaaa", sum := "387f2578cab0f32f6eb288f9116f5cd29778fbae9a1e0d2ff25dc71a89708898", func := "quarto/quartolaw27.EpochSettles", spec := "epochSettles", inPlace := ["sync/atomic.LoadUint64", "sync/atomic.StoreUint64"], unfollowed := true, recurses := true, apart := false }
def EpochSettlesSaid : Prop := epochSettlesRow.holds Try.pinned (OpenSpec.ofChange epochSettlesSpec)

/-- ITS FALSE NEIGHBOUR: 'it returns false'. Refute it at one input. -/
def epochSettlesWrong : ChangeSpec := { name := "epochSettles", fn := fun _ => fun
  | [d1, d2] => { results := [.lit (.bool false)], args := [d1, d2] }
  | _ => none }
def EpochSettlesWrongFalsely : Prop := epochSettlesRow.holds Try.pinned (OpenSpec.ofChange epochSettlesWrong)

/-- 'quartolaw27.EpochConstant': WHATEVER THE INPUT: true; the input reads as it did. -/
def epochConstantSpec : ChangeSpec := { name := "epochConstant", fn := fun _ => fun
  | [d1, d2] => { results := [.lit (.bool true)], args := [d1, d2] }
  | _ => none }
def epochConstantRow : OpenClaim := { program := "ytokcodeeaneeaaa", sum := "387f2578cab0f32f6eb288f9116f5cd29778fbae9a1e0d2ff25dc71a89708898", func := "quarto/quartolaw27.EpochConstant", spec := "epochConstant", inPlace := ["sync/atomic.LoadUint64", "sync/atomic.StoreUint64"], unfollowed := true, recurses := true, apart := false }
def EpochConstantSaid : Prop := epochConstantRow.holds Try.pinned (OpenSpec.ofChange epochConstantSpec)

/-- ITS FALSE NEIGHBOUR: 'it returns false'. Refute it at one input. -/
def epochConstantWrong : ChangeSpec := { name := "epochConstant", fn := fun _ => fun
  | [d1, d2] => { results := [.lit (.bool false)], args := [d1, d2] }
  | _ => none }
def EpochConstantWrongFalsely : Prop := epochConstantRow.holds Try.pinned (OpenSpec.ofChange epochConstantWrong)

/-- 'quartolaw27.EpochExamples': WHATEVER THE INPUT: true; the input reads as it did. -/
def epochExamplesSpec : ChangeSpec := { name := "epochExamples", fn := fun _ => fun
  | [] => { results := [.lit (.bool true)], args := [] }
  | _ => none }
def epochExamplesRow : OpenClaim := { program := "ytokcodeeaneeaaa", sum := "387f2578cab0f32f6eb288f9116f5cd29778fbae9a1e0d2ff25dc71a89708898", func := "quarto/quartolaw27.EpochExamples", spec := "epochExamples", inPlace := ["sync/atomic.LoadUint64", "sync/atomic.StoreUint64"], unfollowed := true, recurses := true, apart := false }
def EpochExamplesSaid : Prop := epochExamplesRow.holds Try.pinned (OpenSpec.ofChange epochExamplesSpec)

/-- ITS FALSE NEIGHBOUR: 'it returns false'. Refute it at one input. -/
def epochExamplesWrong : ChangeSpec := { name := "epochExamples", fn := fun _ => fun
  | [] => { results := [.lit (.bool false)], args := [] }
  | _ => none }
def EpochExamplesWrongFalsely : Prop := epochExamplesRow.holds Try.pinned (OpenSpec.ofChange epochExamplesWrong)

/- THE SECOND FORM. 'bulk': how many values and letters a reading holds, each counted each time it is reached (what is shared counts as often as it is met; a slice's spare places count too). A statement '..UptoSaid' is the law's where the arguments, and the package variables that the reading takes, are together of bulk at most 1048576: NARROWER than '..Said'. Prove '..Said' where nothing that the law and all that it calls make is longer than what came in: it says more and counts as full. Else prove '..UptoSaid'. A law counts once. -/
mutual
def uptoBulk {H : Type} : DataW H → Nat
  | .lit (.string bytes) => bytes.length + 1
  | .lit _ => 1
  | .nil => 1
  | .ptr d => uptoBulk d + 1
  | .slice elems spare => uptoBulkAll elems + uptoBulkAll spare + 1
  | .agg parts => uptoBulkAll parts + 1
  | .iface _ d => uptoBulk d + 1
  | .map entries => uptoBulkEntries entries + 1
  | .held _ => 1
def uptoBulkAll {H : Type} : List (DataW H) → Nat
  | [] => 0
  | d :: r => uptoBulk d + uptoBulkAll r
def uptoBulkEntries {H : Type} : List (Lit × DataW H) → Nat
  | [] => 0
  | x :: r => uptoBulkEntry x + uptoBulkEntries r
def uptoBulkEntry {H : Type} : Lit × DataW H → Nat
  | (.string bytes, d) => bytes.length + uptoBulk d + 1
  | (_, d) => uptoBulk d + 1
 end
def uptoSmall : (H : Type) → List (DataW H) → Bool := fun _ ds => decide (uptoBulkAll ds ≤ 1048576)
def OpenSpec.upto (s : _root_.Go.ChangeSpec) : _root_.Go.OpenSpec := { _root_.Go.OpenSpec.ofChange s with cond := some uptoSmall }

/-- 'quartolaw27.EpochNew', WHERE WHAT IT READS IS OF BULK AT MOST 1048576: true; the input reads as it did. -/
def epochNewUptoRow : OpenClaim := { program := "ytokcodeeaneeaaa", sum := "387f2578cab0f32f6eb288f9116f5cd29778fbae9a1e0d2ff25dc71a89708898", func := "quarto/quartolaw27.EpochNew", spec := "epochNew", inPlace := ["sync/atomic.LoadUint64", "sync/atomic.StoreUint64"], unfollowed := true, recurses := true, apart := false, narrowed := true }
def EpochNewUptoSaid : Prop := epochNewUptoRow.holds Try.pinned (OpenSpec.upto epochNewSpec)

/-- 'quartolaw27.EpochSteps', WHERE WHAT IT READS IS OF BULK AT MOST 1048576: true; the input reads as it did. -/
def epochStepsUptoRow : OpenClaim := { program := "ytokcodeeaneeaaa", sum := "387f2578cab0f32f6eb288f9116f5cd29778fbae9a1e0d2ff25dc71a89708898", func := "quarto/quartolaw27.EpochSteps", spec := "epochSteps", inPlace := ["sync/atomic.LoadUint64", "sync/atomic.StoreUint64"], unfollowed := true, recurses := true, apart := false, narrowed := true }
def EpochStepsUptoSaid : Prop := epochStepsUptoRow.holds Try.pinned (OpenSpec.upto epochStepsSpec)

/-- 'quartolaw27.EpochGrace', WHERE WHAT IT READS IS OF BULK AT MOST 1048576: true; the input reads as it did. -/
def epochGraceUptoRow : OpenClaim := { program := "ytokcodeeaneeaaa", sum := "387f2578cab0f32f6eb288f9116f5cd29778fbae9a1e0d2ff25dc71a89708898", func := "quarto/quartolaw27.EpochGrace", spec := "epochGrace", inPlace := ["sync/atomic.LoadUint64", "sync/atomic.StoreUint64"], unfollowed := true, recurses := true, apart := false, narrowed := true }
def EpochGraceUptoSaid : Prop := epochGraceUptoRow.holds Try.pinned (OpenSpec.upto epochGraceSpec)

/-- 'quartolaw27.EpochStalls', WHERE WHAT IT READS IS OF BULK AT MOST 1048576: true; the input reads as it did. -/
def epochStallsUptoRow : OpenClaim := { program := "ytokcodeeaneeaaa", sum := "387f2578cab0f32f6eb288f9116f5cd29778fbae9a1e0d2ff25dc71a89708898", func := "quarto/quartolaw27.EpochStalls", spec := "epochStalls", inPlace := ["sync/atomic.LoadUint64", "sync/atomic.StoreUint64"], unfollowed := true, recurses := true, apart := false, narrowed := true }
def EpochStallsUptoSaid : Prop := epochStallsUptoRow.holds Try.pinned (OpenSpec.upto epochStallsSpec)

/-- 'quartolaw27.EpochSettles', WHERE WHAT IT READS IS OF BULK AT MOST 1048576: true; the input reads as it did. -/
def epochSettlesUptoRow : OpenClaim := { program := "ytokcodeeaneeaaa", sum := "387f2578cab0f32f6eb288f9116f5cd29778fbae9a1e0d2ff25dc71a89708898", func := "quarto/quartolaw27.EpochSettles", spec := "epochSettles", inPlace := ["sync/atomic.LoadUint64", "sync/atomic.StoreUint64"], unfollowed := true, recurses := true, apart := false, narrowed := true }
def EpochSettlesUptoSaid : Prop := epochSettlesUptoRow.holds Try.pinned (OpenSpec.upto epochSettlesSpec)

/-- 'quartolaw27.EpochConstant', WHERE WHAT IT READS IS OF BULK AT MOST 1048576: true; the input reads as it did. -/
def epochConstantUptoRow : OpenClaim := { program := "ytokcodeeaneeaaa", sum := "387f2578cab0f32f6eb288f9116f5cd29778fbae9a1e0d2ff25dc71a89708898", func := "quarto/quartolaw27.EpochConstant", spec := "epochConstant", inPlace := ["sync/atomic.LoadUint64", "sync/atomic.StoreUint64"], unfollowed := true, recurses := true, apart := false, narrowed := true }
def EpochConstantUptoSaid : Prop := epochConstantUptoRow.holds Try.pinned (OpenSpec.upto epochConstantSpec)

/-- 'quartolaw27.EpochExamples', WHERE WHAT IT READS IS OF BULK AT MOST 1048576: true; the input reads as it did. -/
def epochExamplesUptoRow : OpenClaim := { program := "ytokcodeeaneeaaa", sum := "387f2578cab0f32f6eb288f9116f5cd29778fbae9a1e0d2ff25dc71a89708898", func := "quarto/quartolaw27.EpochExamples", spec := "epochExamples", inPlace := ["sync/atomic.LoadUint64", "sync/atomic.StoreUint64"], unfollowed := true, recurses := true, apart := false, narrowed := true }
def EpochExamplesUptoSaid : Prop := epochExamplesUptoRow.holds Try.pinned (OpenSpec.upto epochExamplesSpec)

end Rows
end Go.Proofs.Ytokcodeeaneeaaa
