/- client.Check: an operation compared. -/
import Derived.Test.YtgbmipglahebpaaRunesF
import Derived.Laws.StructEq
namespace Go.Proofs.Ytgbmipglahebpaa
open Go.RowKit
set_option linter.unusedVariables false
set_option linter.unusedSimpArgs false

structure OpV where
  k : Int
  sl : Int
  at' : Int
  n : Int
  id : Int
  gr : Int
  tx : ByteArray
def OpV.cells (x : OpV) : Array Value := #[.int .u8 x.k, .int .i64 x.sl, .int .i64 x.at', .int .i64 x.n, .int .u32 x.id, .int .u8 x.gr, .string x.tx]
def OpV.agg (x : OpV) : Value := .agg x.cells
def opB (x y : OpV) : Bool := x.k == y.k && (x.sl == y.sl && (x.at' == y.at' && (x.n == y.n && (x.id == y.id && (x.gr == y.gr && decide (x.tx.toList = y.tx.toList))))))
set_option maxRecDepth 100000 in
theorem op_neq_run (x y : OpV) (w : World) : (binOp .neq 36 x.agg y.agg).run Try.prog w = .ok (.bool (!(opB x y))) w := by
  unfold OpV.agg OpV.cells opB
  go_simp
  repeat' split
  all_goals simp_all

theorem exec_op_neq {o : Oper} {a : Act} {s t : Operand} {ty : TypeId} (ho : o.op = .binOp .neq 36 s t ty) {x y : OpV} (hs : a.eval s = x.agg) (ht : a.eval t = y.agg) (W : World) : (execOp a.eval o).run Try.prog W = .ok (.value (.bool (!(opB x y)))) W := by
  have hr := op_neq_run x y W
  have hg := run_eqGuard_agg (P := Try.prog) W .neq 36 s t x.cells y.cells (by kernel_rfl)
  have hg' : (eqGuard .neq 36 s t x.agg y.agg).run Try.prog W = .ok () W := hg
  simp [execOp, ho, hs, ht, hr, hg']

theorem nil_text {t : ByteArray} (h : t.toList = []) : t = ⟨#[]⟩ := by
  have h1 : t.data.toList = [] := by rw [← ByteArray.toList_eq] ; exact h
  cases t
  simp at h1
  rw [h1]
theorem nil_not {t : ByteArray} (h : t.toList ≠ []) : t.toList.isEmpty = false := by
  cases hh : t.toList with
  | nil => exact absurd hh h
  | cons _ _ => rfl

end Go.Proofs.Ytgbmipglahebpaa
