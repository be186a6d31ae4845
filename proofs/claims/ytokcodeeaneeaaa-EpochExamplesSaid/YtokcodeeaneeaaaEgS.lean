/- Runs of an epoch: scan. -/
import Derived.Test.YtokcodeeaneeaaaEgSt
import Derived.Test.YtokcodeeaneeaaaEgSf
namespace Go.Proofs.Ytokcodeeaneeaaa
open Go.RowKit
set_option linter.unusedVariables false
set_option linter.unusedSimpArgs false
set_option linter.unusedSectionVars false

theorem xscan_any (rp : List (Option Nat)) (B p cb qb pb pr X lb n M : Nat) (lv ov v0 v1 v2 : Value) (x : Xr) (gp : List Gp) (gs : Gs) (go : List (Nat × Rt)) (w0 w : World) (h : RunG rp B p cb qb pb pr X lb n M lv ov v0 v1 v2 x gp gs go w0 w) (hM : M + 1 ≤ 200000) :
    Calls Try.prog 41 #[.pointer (some ⟨X, 0, none⟩)] w (Scanned rp B p cb qb pb pr X lb n M ov x gp w0) := by
  cases hf : x.fine
  · exact scan_f rp B p cb qb pb pr X lb n M lv ov v0 v1 v2 x gp gs go w0 w h hM hf
  · exact scan_t rp B p cb qb pb pr X lb n M lv ov v0 v1 v2 x gp gs go w0 w h hM hf
end Go.Proofs.Ytokcodeeaneeaaa
