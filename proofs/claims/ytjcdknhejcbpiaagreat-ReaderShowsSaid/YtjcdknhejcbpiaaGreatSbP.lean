/- Lemmas; no condition. -/
import Derived.Test.YtjcdknhejcbpiaaGreatSb46
import Derived.ChangeMaps5
namespace Go.Proofs.YtjcdknhejcbpiaaGreat
open Go.RowKit
set_option linter.unusedVariables false
set_option linter.unusedSimpArgs false
set_option linter.unusedSectionVars false
theorem shows_in (s:ByteArray) (rd:Int) (a:Option Addr) (nn c:Nat) (ls:List (List Value)) (w0:World) (h0:s.size<=maxLen) (h1:(Lit.int .i64 rd).wf=true) (h:InRowsN evKs w0 a nn ls) :
  Calls Tryz.prog 3 #[.string s,.int .i64 rd,.slice a nn c] w0 fun e w'=>e=.returned (.bool true)/\Below w0.heap.size w0 w':=by
 obtain ⟨l,hl⟩:=in_evR h
 exact shows_walk s rd a nn c l w0 hl h0
end Go.Proofs.YtjcdknhejcbpiaaGreat
