/- Texts XRdX for XPcs, by trim.py. -/
import Derived.Test.YtjcdknhejcbpiaaGreatPb36
import Derived.Test.YtjcdknhejcbpiaaGreatPb32
import Derived.Test.YtjcdknhejcbpiaaGreatPb26
import Derived.Test.YtjcdknhejcbpiaaGreatPb37
namespace Go.Proofs.YtjcdknhejcbpiaaGreat
open Go.RowKit
set_option linter.unusedVariables false
set_option linter.unusedSimpArgs false
set_option linter.unusedSectionVars false
set_option maxRecDepth 100000
def visLF (g : Nat) : Value := .func (.func 72) #[.pointer (some ⟨g, 0, none⟩)] #[]
def visRF (g : Nat) : Value := .func (.func 71) #[.pointer (some ⟨g, 0, none⟩)] #[]
end Go.Proofs.YtjcdknhejcbpiaaGreat
