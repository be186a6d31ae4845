/-
  No cell of these rows narrows 'for every input' (looked for: loops, veiled, ifaces, maps, wideKeys, modest, calm, conditions, laid).
  DERIVED. THE GIVEN ROWS OF THIS SEAT. 5 by the template 'for every input the law returns true; each argument reads behind the call as it read before'; 0 by the template 'total and deterministic' (their statements: YtjcdknhejcbpiaaGreatTotals.lean).
  GIVEN WITH THE SEED: the statements are not yours to turn. If you find one false, say at which input.
  Laid BY PROGRAM, IN A SANDBOX (cutbox-rows.mjs): the forced cells as the released guide's own fill.sh prints them over the translation 0b9a55e24d00a3fa… (all of the seat's roots in one cut). By AI agents, Wed Nov 11 2026. No macro, syntax, notation, axiom, sorry.
-/
import Derived.Test.YtjcdknhejcbpiaaGreatChecked
import GoSem.Claim
import GoSem.ClaimJoined
import GoSem.ClaimMapViews
import Derived.JoinedTies
import Derived.KernelRfl
namespace Go.Proofs.YtjcdknhejcbpiaaGreat
/- THE CELL 'sum', in the pinned program and in every row, IS THE sha256 OF THE DUMP (.gsa) THAT YtjcdknhejcbpiaaGreatProg.lean LOADS. Nothing in Lean hashes anything: it is a label: what it is worth is what the hold of that sum in a sandbox is worth. -/
noncomputable def Tryz.pinned : Pinned := { name := "ytjcdknhejcbpiaagreat", sum := "0b9a55e24d00a3fa3f7bf8a470d34f76238ef306685deebd500ed82bee863ff3", checked := Tryz.checked }
namespace Rows
def none {H : Type} : Left H := { results := [], args := [] }

/-- 'quartolaw30.ReaderShows': WHATEVER THE INPUT: true; the input reads as it did. -/
def readerShowsSpec : ChangeSpec := { name := "readerShows", fn := fun _ => fun
  | [d1, d2, d3] => { results := [.lit (.bool true)], args := [d1, d2, d3] }
  | _ => none }
def readerShowsRow : OpenClaim := { program := "ytjcdknhejcbpiaagreat", sum := "0b9a55e24d00a3fa3f7bf8a470d34f76238ef306685deebd500ed82bee863ff3", func := "quarto/quartolaw30.ReaderShows", spec := "readerShows", inPlace := ["sync/atomic.LoadUint64", "sync/atomic.StoreUint64"], unfollowed := true, recurses := true, apart := false }
def ReaderShowsSaid : Prop := readerShowsRow.holds Tryz.pinned (OpenSpec.ofChange readerShowsSpec)

/-- ITS FALSE NEIGHBOUR: 'it returns false'. Refute it at one input. -/
def readerShowsWrong : ChangeSpec := { name := "readerShows", fn := fun _ => fun
  | [d1, d2, d3] => { results := [.lit (.bool false)], args := [d1, d2, d3] }
  | _ => none }
def ReaderShowsWrongFalsely : Prop := readerShowsRow.holds Tryz.pinned (OpenSpec.ofChange readerShowsWrong)

/-- 'quartolaw30.ReaderAlone': WHATEVER THE INPUT: true; the input reads as it did. -/
def readerAloneSpec : ChangeSpec := { name := "readerAlone", fn := fun _ => fun
  | [d1, d2, d3] => { results := [.lit (.bool true)], args := [d1, d2, d3] }
  | _ => none }
def readerAloneRow : OpenClaim := { program := "ytjcdknhejcbpiaagreat", sum := "0b9a55e24d00a3fa3f7bf8a470d34f76238ef306685deebd500ed82bee863ff3", func := "quarto/quartolaw30.ReaderAlone", spec := "readerAlone", inPlace := ["sync/atomic.LoadUint64", "sync/atomic.StoreUint64"], unfollowed := true, recurses := true, apart := false }
def ReaderAloneSaid : Prop := readerAloneRow.holds Tryz.pinned (OpenSpec.ofChange readerAloneSpec)

/-- ITS FALSE NEIGHBOUR: 'it returns false'. Refute it at one input. -/
def readerAloneWrong : ChangeSpec := { name := "readerAlone", fn := fun _ => fun
  | [d1, d2, d3] => { results := [.lit (.bool false)], args := [d1, d2, d3] }
  | _ => none }
def ReaderAloneWrongFalsely : Prop := readerAloneRow.holds Tryz.pinned (OpenSpec.ofChange readerAloneWrong)

/-- 'quartolaw30.ReaderPieces': WHATEVER THE INPUT: true; the input reads as it did. -/
def readerPiecesSpec : ChangeSpec := { name := "readerPieces", fn := fun _ => fun
  | [d1, d2] => { results := [.lit (.bool true)], args := [d1, d2] }
  | _ => none }
def readerPiecesRow : OpenClaim := { program := "ytjcdknhejcbpiaagreat", sum := "0b9a55e24d00a3fa3f7bf8a470d34f76238ef306685deebd500ed82bee863ff3", func := "quarto/quartolaw30.ReaderPieces", spec := "readerPieces", inPlace := ["sync/atomic.LoadUint64", "sync/atomic.StoreUint64"], unfollowed := true, recurses := true, apart := false }
def ReaderPiecesSaid : Prop := readerPiecesRow.holds Tryz.pinned (OpenSpec.ofChange readerPiecesSpec)

/-- ITS FALSE NEIGHBOUR: 'it returns false'. Refute it at one input. -/
def readerPiecesWrong : ChangeSpec := { name := "readerPieces", fn := fun _ => fun
  | [d1, d2] => { results := [.lit (.bool false)], args := [d1, d2] }
  | _ => none }
def ReaderPiecesWrongFalsely : Prop := readerPiecesRow.holds Tryz.pinned (OpenSpec.ofChange readerPiecesWrong)

/-- 'quartolaw30.ReaderExamples': WHATEVER THE INPUT: true; the input reads as it did. -/
def readerExamplesSpec : ChangeSpec := { name := "readerExamples", fn := fun _ => fun
  | [] => { results := [.lit (.bool true)], args := [] }
  | _ => none }
def readerExamplesRow : OpenClaim := { program := "ytjcdknhejcbpiaagreat", sum := "0b9a55e24d00a3fa3f7bf8a470d34f76238ef306685deebd500ed82bee863ff3", func := "quarto/quartolaw30.ReaderExamples", spec := "readerExamples", inPlace := ["sync/atomic.LoadUint64", "sync/atomic.StoreUint64"], unfollowed := true, recurses := true, apart := false }
def ReaderExamplesSaid : Prop := readerExamplesRow.holds Tryz.pinned (OpenSpec.ofChange readerExamplesSpec)

/-- ITS FALSE NEIGHBOUR: 'it returns false'. Refute it at one input. -/
def readerExamplesWrong : ChangeSpec := { name := "readerExamples", fn := fun _ => fun
  | [] => { results := [.lit (.bool false)], args := [] }
  | _ => none }
def ReaderExamplesWrongFalsely : Prop := readerExamplesRow.holds Tryz.pinned (OpenSpec.ofChange readerExamplesWrong)

/-- 'quartolaw30.ReaderAnnounces': WHATEVER THE INPUT: true; the input reads as it did. -/
def readerAnnouncesSpec : ChangeSpec := { name := "readerAnnounces", fn := fun _ => fun
  | [d1, d2, d3] => { results := [.lit (.bool true)], args := [d1, d2, d3] }
  | _ => none }
def readerAnnouncesRow : OpenClaim := { program := "ytjcdknhejcbpiaagreat", sum := "0b9a55e24d00a3fa3f7bf8a470d34f76238ef306685deebd500ed82bee863ff3", func := "quarto/quartolaw30.ReaderAnnounces", spec := "readerAnnounces", inPlace := ["sync/atomic.LoadUint64", "sync/atomic.StoreUint64"], unfollowed := true, recurses := true, apart := false }
def ReaderAnnouncesSaid : Prop := readerAnnouncesRow.holds Tryz.pinned (OpenSpec.ofChange readerAnnouncesSpec)

/-- ITS FALSE NEIGHBOUR: 'it returns false'. Refute it at one input. -/
def readerAnnouncesWrong : ChangeSpec := { name := "readerAnnounces", fn := fun _ => fun
  | [d1, d2, d3] => { results := [.lit (.bool false)], args := [d1, d2, d3] }
  | _ => none }
def ReaderAnnouncesWrongFalsely : Prop := readerAnnouncesRow.holds Tryz.pinned (OpenSpec.ofChange readerAnnouncesWrong)

/- THE SECOND FORM. 'bulk': how many values and letters a reading holds, each counted each time it is reached (what is shared counts as often as it is met; a slice's spare places count too). A statement '..UptoSaid' is the law's where the arguments, and the package variables that the reading takes, are together of bulk at most 1048576: NARROWER than '..Said'. Prove '..Said' where nothing that the law and all that it calls make is longer than what came in: it says more and counts as full. Else prove '..UptoSaid'. A law counts once. -/
mutual
def uptoBulk {H : Type} : DataW H → Nat
  | .lit (.string bytes) => bytes.length + 1
  | .lit _ => 1
  | .nil => 1
  | .ptr d => uptoBulk d + 1
  | .slice elems spare => uptoBulkAll elems + uptoBulkAll spare + 1
  | .agg parts => uptoBulkAll parts + 1
  | .iface _ d => uptoBulk d + 1
  | .map entries => uptoBulkEntries entries + 1
  | .held _ => 1
def uptoBulkAll {H : Type} : List (DataW H) → Nat
  | [] => 0
  | d :: r => uptoBulk d + uptoBulkAll r
def uptoBulkEntries {H : Type} : List (Lit × DataW H) → Nat
  | [] => 0
  | x :: r => uptoBulkEntry x + uptoBulkEntries r
def uptoBulkEntry {H : Type} : Lit × DataW H → Nat
  | (.string bytes, d) => bytes.length + uptoBulk d + 1
  | (_, d) => uptoBulk d + 1
 end
def uptoSmall : (H : Type) → List (DataW H) → Bool := fun _ ds => decide (uptoBulkAll ds ≤ 1048576)
def OpenSpec.upto (s : _root_.Go.ChangeSpec) : _root_.Go.OpenSpec := { _root_.Go.OpenSpec.ofChange s with cond := some uptoSmall }

/-- 'quartolaw30.ReaderShows', WHERE WHAT IT READS IS OF BULK AT MOST 1048576: true; the input reads as it did. -/
def readerShowsUptoRow : OpenClaim := { program := "ytjcdknhejcbpiaagreat", sum := "0b9a55e24d00a3fa3f7bf8a470d34f76238ef306685deebd500ed82bee863ff3", func := "quarto/quartolaw30.ReaderShows", spec := "readerShows", inPlace := ["sync/atomic.LoadUint64", "sync/atomic.StoreUint64"], unfollowed := true, recurses := true, apart := false, narrowed := true }
def ReaderShowsUptoSaid : Prop := readerShowsUptoRow.holds Tryz.pinned (OpenSpec.upto readerShowsSpec)

/-- 'quartolaw30.ReaderAlone', WHERE WHAT IT READS IS OF BULK AT MOST 1048576: true; the input reads as it did. -/
def readerAloneUptoRow : OpenClaim := { program := "ytjcdknhejcbpiaagreat", sum := "0b9a55e24d00a3fa3f7bf8a470d34f76238ef306685deebd500ed82bee863ff3", func := "quarto/quartolaw30.ReaderAlone", spec := "readerAlone", inPlace := ["sync/atomic.LoadUint64", "sync/atomic.StoreUint64"], unfollowed := true, recurses := true, apart := false, narrowed := true }
def ReaderAloneUptoSaid : Prop := readerAloneUptoRow.holds Tryz.pinned (OpenSpec.upto readerAloneSpec)

/-- 'quartolaw30.ReaderPieces', WHERE WHAT IT READS IS OF BULK AT MOST 1048576: true; the input reads as it did. -/
def readerPiecesUptoRow : OpenClaim := { program := "ytjcdknhejcbpiaagreat", sum := "0b9a55e24d00a3fa3f7bf8a470d34f76238ef306685deebd500ed82bee863ff3", func := "quarto/quartolaw30.ReaderPieces", spec := "readerPieces", inPlace := ["sync/atomic.LoadUint64", "sync/atomic.StoreUint64"], unfollowed := true, recurses := true, apart := false, narrowed := true }
def ReaderPiecesUptoSaid : Prop := readerPiecesUptoRow.holds Tryz.pinned (OpenSpec.upto readerPiecesSpec)

/-- 'quartolaw30.ReaderExamples', WHERE WHAT IT READS IS OF BULK AT MOST 1048576: true; the input reads as it did. -/
def readerExamplesUptoRow : OpenClaim := { program := "ytjcdknhejcbpiaagreat", sum := "0b9a55e24d00a3fa3f7bf8a470d34f76238ef306685deebd500ed82bee863ff3", func := "quarto/quartolaw30.ReaderExamples", spec := "readerExamples", inPlace := ["sync/atomic.LoadUint64", "sync/atomic.StoreUint64"], unfollowed := true, recurses := true, apart := false, narrowed := true }
def ReaderExamplesUptoSaid : Prop := readerExamplesUptoRow.holds Tryz.pinned (OpenSpec.upto readerExamplesSpec)

/-- 'quartolaw30.ReaderAnnounces', WHERE WHAT IT READS IS OF BULK AT MOST 1048576: true; the input reads as it did. -/
def readerAnnouncesUptoRow : OpenClaim := { program := "ytjcdknhejcbpiaagreat", sum := "0b9a55e24d00a3fa3f7bf8a470d34f76238ef306685deebd500ed82bee863ff3", func := "quarto/quartolaw30.ReaderAnnounces", spec := "readerAnnounces", inPlace := ["sync/atomic.LoadUint64", "sync/atomic.StoreUint64"], unfollowed := true, recurses := true, apart := false, narrowed := true }
def ReaderAnnouncesUptoSaid : Prop := readerAnnouncesUptoRow.holds Tryz.pinned (OpenSpec.upto readerAnnouncesSpec)

end Rows
end Go.Proofs.YtjcdknhejcbpiaaGreat
