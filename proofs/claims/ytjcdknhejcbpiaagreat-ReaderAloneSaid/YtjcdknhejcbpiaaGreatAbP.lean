/- Lemmas that the proof of the last text leans on; no condition. -/
import Derived.Test.YtjcdknhejcbpiaaGreatAb46
import Derived.Test.YtjcdknhejcbpiaaGreatAb20
import Derived.ChangeMaps5
namespace Go.Proofs.YtjcdknhejcbpiaaGreat
open Go.RowKit
set_option linter.unusedVariables false
set_option linter.unusedSimpArgs false
set_option linter.unusedSectionVars false
theorem op_of_fits {vs:List Value} (h:FitsS [some (some .u8),some (some .i64),some (some .i64),some (some .i64),some (some .u32),some (some .u8),none] vs):∃x:OpV,Value.agg vs.toArray=x.v∧x.ok:=by
 obtain ⟨hl,hv⟩:=h
 obtain ⟨v1,h1,u1,rfl,w1⟩:=hv 0 _ rfl
 obtain ⟨v2,h2,u2,rfl,w2⟩:=hv 1 _ rfl
 obtain ⟨v3,h3,u3,rfl,w3⟩:=hv 2 _ rfl
 obtain ⟨v4,h4,u4,rfl,w4⟩:=hv 3 _ rfl
 obtain ⟨v5,h5,u5,rfl,w5⟩:=hv 4 _ rfl
 obtain ⟨v6,h6,u6,rfl,w6⟩:=hv 5 _ rfl
 obtain ⟨v7,h7,u7,rfl,w7⟩:=hv 6 _ rfl
 refine ⟨⟨u1,u2,u3,u4,u5,u6,u7⟩,?_,⟨wf_u8 w1,wf_i64 w2,wf_i64 w3,wf_i64 w4,wf_u32 w5⟩⟩
 match vs,hl with
 | [x0,x1,x2,x3,x4,x5,x6],_=>
  simp at h1 h2 h3 h4 h5 h6 h7
  rw [h1,h2,h3,h4,h5,h6,h7]
  rfl
theorem alone_in (s:ByteArray) (vs:List Value) (a:Option Addr) (nn c:Nat) (ls:List (List Value)) (w0:World) (h0:s.size≤maxLen) (h1:FitsS [some (some .u8),some (some .i64),some (some .i64),some (some .i64),some (some .u32),some (some .u8),none] vs) (h:InRowsN evKs w0 a nn ls) :
  Calls Tryz.prog 4 #[.string s,.agg vs.toArray,.slice a nn c] w0 fun e w'=>e=.returned (.bool true)∧Below w0.heap.size w0 w':=by
 obtain ⟨l,hl⟩:=in_evR h
 obtain ⟨op,ho,hk⟩:=op_of_fits h1
 rw [ho]
 exact alone_walk s op a nn c l w0 hl h0 hk
end Go.Proofs.YtjcdknhejcbpiaaGreat
