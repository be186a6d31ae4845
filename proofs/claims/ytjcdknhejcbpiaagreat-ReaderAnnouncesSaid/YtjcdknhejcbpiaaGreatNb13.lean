/- Lemmas that the proof of the last text leans on; no condition. -/
import Derived.Test.YtjcdknhejcbpiaaGreatNb12
namespace Go.Proofs.YtjcdknhejcbpiaaGreat
open Go.RowKit
set_option linter.unusedVariables false
set_option linter.unusedSimpArgs false
set_option linter.unusedSectionVars false
set_option maxRecDepth 100000
def hdl (i : Nat) : Int := 65536 + (i : Int)
theorem hdl_and (i : Nat) (hi : i < 16384) : bits .and .u64 (65536 + (i : Int)) 65535 = (i : Int) := by
  have t := bits_mask .u64 32 (by decide) (fun n h0 h1 => by simp [IntKind.wrap, IntKind.bits, IntKind.signed]; omega) 16 (by decide) (65536 + (i : Int)) (by omega) (by simp; omega)
  have t' : bits .and .u64 (65536 + (i : Int)) 65535 = (65536 + (i : Int)) % 65536 := t
  rw [t']
  omega
theorem hdl_or (i : Nat) (hi : i < 16384) : bits .or .u64 65536 (i : Int) = 65536 + (i : Int) := by
  have t := bits_join .u64 32 (by decide) (fun n h0 h1 => by simp [IntKind.wrap, IntKind.bits, IntKind.signed]; omega) 16 65536 (i : Int) (by decide) (by decide) (by decide) (by omega) (by simp; omega) (by simp; omega)
  exact t
theorem hparts_any (i : Nat) (hi : i < 16384) (w : World) : Calls Tryz.prog 173 #[.int .u64 (hdl i)] w fun e w' => e = .returned (.tuple #[.int .i64 (i : Int), .int .u64 1]) ∧ w = w' := by
  unfold hdl
  go_enter Tryz.func173, Tryz.ntmps173
  go_wp2_with fail
  go_ret2
  refine ⟨?_, rfl⟩
  rw [hdl_and i hi]
  have e1 : (65536 + (i : Int)) / 65536 = 1 := by omega
  have e2 : wrap64 (i : Int) = i := by unfold wrap64; omega
  simp [e1, e2]
theorem hcheck_any (i : Nat) (hi : i < 16384) (w : World) : Calls Tryz.prog 170 #[.int .u64 (hdl i)] w fun e w' => e = .returned (.int .i64 0) ∧ w = w' := by
  have a1 : decide ((16384 : Int) ≤ (i : Int)) = false := decide_eq_false (by omega)
  have a2 : decide (16384 ≤ i) = false := decide_eq_false (by omega)
  go_enter Tryz.func170, Tryz.ntmps170
  go_wp2_with fail
  refine (hparts_any i hi w).mono ?_
  rintro e w' ⟨rfl, rfl⟩
  go_wp2_with fail
  go_ret
  exact ⟨rfl, rfl⟩
theorem hmake_any (i : Nat) (hi : i < 16384) (w : World) : Calls Tryz.prog 175 #[.int .i64 (i : Int), .int .u64 1] w fun e w' => e = .returned (.tuple #[.int .u64 (hdl i), .int .i64 0]) ∧ w = w' := by
  have a1 : decide ((i : Int) < 0) = false := decide_eq_false (by omega)
  have a2 : decide ((16384 : Int) ≤ (i : Int)) = false := decide_eq_false (by omega)
  have a3 : decide (16384 ≤ i) = false := decide_eq_false (by omega)
  go_enter Tryz.func175, Tryz.ntmps175
  go_wp2_with fail
  go_ret2
  refine ⟨?_, rfl⟩
  rw [hdl_or i hi]
  rfl
end Go.Proofs.YtjcdknhejcbpiaaGreat
