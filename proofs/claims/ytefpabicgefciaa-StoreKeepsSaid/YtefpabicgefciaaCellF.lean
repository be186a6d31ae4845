/- Accesses compared and copied; the reference's log. -/
import Derived.Test.YtefpabicgefciaaReplay
import Derived.Test.YtefpabicgefciaaRefB
import Derived.Laws.StructEq
namespace Go.Proofs.Ytefpabicgefciaa
open Go.RowKit
set_option linter.unusedSimpArgs false
set_option linter.unusedVariables false

def accB (x y : Acc) : Bool := x.t == y.t && (x.c == y.c && (x.k == y.k && (x.o == y.o && (x.n == y.n && x.s == y.s))))
theorem accB_iff (x y : Acc) : accB x y = true ↔ x = y := by
  obtain ⟨a, b, c, d, e, f⟩ := x
  obtain ⟨a', b', c', d', e', f'⟩ := y
  simp [accB]

theorem acc_neq_run (x y : Acc) (w : World) : (binOp .neq 222 x.agg y.agg).run Try.prog w = .ok (.bool (!(accB x y))) w := by
  unfold Acc.agg accB
  go_simp
  repeat' split
  all_goals simp_all

theorem exec_acc_neq {o : Oper} {a : Act} {s t : Operand} {ty : TypeId} (ho : o.op = .binOp .neq 222 s t ty) {x y : Acc} (hs : a.eval s = x.agg) (ht : a.eval t = y.agg) (W : World) : (execOp a.eval o).run Try.prog W = .ok (.value (.bool (!(accB x y)))) W := by
  have hr := acc_neq_run x y W
  have hg := run_eqGuard_agg (P := Try.prog) W .neq 222 s t #[.int .i64 x.t, .int .i64 x.c, .int .u8 x.k, .int .u64 x.o, .int .u64 x.n, .bool x.s] #[.int .i64 y.t, .int .i64 y.c, .int .u8 y.k, .int .u64 y.o, .int .u64 y.n, .bool y.s] (by kernel_rfl)
  have hg' : (eqGuard .neq 222 s t x.agg y.agg).run Try.prog W = .ok () W := hg
  simp [execOp, ho, hs, ht, hr, hg']

theorem own_accs {w : World} {B n : Nat} {v : Value} {lg : List Acc} (h : w.ownsRow B 222 6 v n (logCells lg)) : ∃ A cap, v = .slice A n cap ∧ n ≤ cap ∧ InAccs w A n lg := by
  have hl : lg.length = n := by have := h.1; rw [logCells_length] at this; omega
  obtain ⟨A, cap, rfl, hcap⟩ := own_slice h
  refine ⟨A, cap, rfl, hcap, hl, fun h0 => ?_⟩
  obtain ⟨g, c', hv, _, _, _, hg⟩ := own_form h h0
  injection hv with hA _ _
  subst hA
  refine ⟨g, 0, rfl, hg, fun i j x v hi hj => ?_⟩
  rw [Nat.zero_add]
  have := h.cells (g := g) rfl (i * 6 + j) v (logCells_get lg i x hi j v hj)
  rwa [addr_add0] at this

/-- A slice of accesses that the call owns. -/
def Owned (w w' : World) (lg : List Acc) (e : Ending) : Prop := ∃ v, e = .returned v ∧ w'.ownsRow w.heap.size 222 6 v lg.length (logCells lg) ∧ Ch (fun _ => False) w w'

end Go.Proofs.Ytefpabicgefciaa
