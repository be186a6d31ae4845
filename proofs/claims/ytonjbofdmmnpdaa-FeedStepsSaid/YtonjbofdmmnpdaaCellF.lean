/- Accesses compared and copied; the reference's log. -/
import Derived.Test.YtonjbofdmmnpdaaReplay
import Derived.Test.YtonjbofdmmnpdaaRefB
import Derived.Laws.StructEq
namespace Go.Proofs.Ytonjbofdmmnpdaa
open Go.RowKit
set_option linter.unusedSimpArgs false
set_option linter.unusedVariables false

def accB (x y : Acc) : Bool := x.t == y.t && (x.c == y.c && (x.k == y.k && (x.o == y.o && (x.n == y.n && x.s == y.s))))
theorem accB_iff (x y : Acc) : accB x y = true ↔ x = y := by
  obtain ⟨a, b, c, d, e, f⟩ := x
  obtain ⟨a', b', c', d', e', f'⟩ := y
  simp [accB]

theorem acc_neq_run (x y : Acc) (w : World) : (binOp .neq 120 x.agg y.agg).run Try.prog w = .ok (.bool (!(accB x y))) w := by
  unfold Acc.agg accB
  go_simp
  repeat' split
  all_goals simp_all

theorem exec_acc_neq {o : Oper} {a : Act} {s t : Operand} {ty : TypeId} (ho : o.op = .binOp .neq 120 s t ty) {x y : Acc} (hs : a.eval s = x.agg) (ht : a.eval t = y.agg) (W : World) : (execOp a.eval o).run Try.prog W = .ok (.value (.bool (!(accB x y)))) W := by
  have hr := acc_neq_run x y W
  have hg := run_eqGuard_agg (P := Try.prog) W .neq 120 s t #[.int .i64 x.t, .int .i64 x.c, .int .u8 x.k, .int .u64 x.o, .int .u64 x.n, .bool x.s] #[.int .i64 y.t, .int .i64 y.c, .int .u8 y.k, .int .u64 y.o, .int .u64 y.n, .bool y.s] (by kernel_rfl)
  have hg' : (eqGuard .neq 120 s t x.agg y.agg).run Try.prog W = .ok () W := hg
  simp [execOp, ho, hs, ht, hr, hg']

theorem own_accs {w : World} {B n : Nat} {v : Value} {lg : List Acc} (h : w.ownsRow B 120 6 v n (logCells lg)) : ∃ A cap, v = .slice A n cap ∧ n ≤ cap ∧ InAccs w A n lg := by
  have hl : lg.length = n := by have := h.1; rw [logCells_length] at this; omega
  obtain ⟨A, cap, rfl, hcap⟩ := own_slice h
  refine ⟨A, cap, rfl, hcap, hl, fun h0 => ?_⟩
  obtain ⟨g, c', hv, _, _, _, hg⟩ := own_form h h0
  injection hv with hA _ _
  subst hA
  refine ⟨g, 0, rfl, hg, fun i j x v hi hj => ?_⟩
  rw [Nat.zero_add]
  have := h.cells (g := g) rfl (i * 6 + j) v (logCells_get lg i x hi j v hj)
  rwa [addr_add0] at this

set_option maxHeartbeats 1000000 in
theorem eqAccs_any (a b : Option Addr) (n ca m cb : Nat) (xs ys : List Acc) (w : World) (ha : InAccs w a n xs) (hb : InAccs w b m ys) (hn : n < 1000000) :
    Calls Try.prog 50 #[.slice a n ca, .slice b m cb] w fun e w' => (xs = ys → e = .returned (.bool true)) ∧ ∃ k, w' = w.drewN k := by
  by_cases hnm : n = m
  · subst hnm
    have hne : ((n : Int) != (n : Int)) = false := by simp
    go_enter Try.func50, Try.ntmps50
    go_wp2_with fail
    go_loopw [5] (fun i wr => ∃ k : Nat, k ≤ n ∧ i = .int .i64 k ∧ ∃ d, wr = w.drewN d) (fun i _ => n - (intOf i).toNat)
    case atStart => exact ⟨0, Nat.zero_le _, rfl, 0, rfl⟩
    case round =>
      obtain ⟨k, hk, rfl, d, rfl⟩ := hrel
      by_cases hlt : k < n
      · obtain ⟨b1, o1, rfl, _, h1⟩ := ha.2 (by omega)
        obtain ⟨b2, o2, rfl, _, h2⟩ := hb.2 (by omega)
        obtain ⟨x, hx⟩ : ∃ x, xs[k]? = some x := ⟨_, List.getElem?_eq_getElem (by have := ha.1; omega)⟩
        obtain ⟨y, hy⟩ : ∃ y, ys[k]? = some y := ⟨_, List.getElem?_eq_getElem (by have := hb.1; omega)⟩
        have c0 : w.cell? ⟨b1, o1 + k * 6, none⟩ = some (.int .i64 x.t) := h1 k 0 x _ hx rfl
        have c1 : w.cell? ⟨b1, o1 + k * 6 + 1, none⟩ = some (.int .i64 x.c) := h1 k 1 x _ hx rfl
        have c2 : w.cell? ⟨b1, o1 + k * 6 + 2, none⟩ = some (.int .u8 x.k) := h1 k 2 x _ hx rfl
        have c3 : w.cell? ⟨b1, o1 + k * 6 + 3, none⟩ = some (.int .u64 x.o) := h1 k 3 x _ hx rfl
        have c4 : w.cell? ⟨b1, o1 + k * 6 + 4, none⟩ = some (.int .u64 x.n) := h1 k 4 x _ hx rfl
        have c5 : w.cell? ⟨b1, o1 + k * 6 + 5, none⟩ = some (.bool x.s) := h1 k 5 x _ hx rfl
        have e0 : w.cell? ⟨b2, o2 + k * 6, none⟩ = some (.int .i64 y.t) := h2 k 0 y _ hy rfl
        have e1 : w.cell? ⟨b2, o2 + k * 6 + 1, none⟩ = some (.int .i64 y.c) := h2 k 1 y _ hy rfl
        have e2 : w.cell? ⟨b2, o2 + k * 6 + 2, none⟩ = some (.int .u8 y.k) := h2 k 2 y _ hy rfl
        have e3 : w.cell? ⟨b2, o2 + k * 6 + 3, none⟩ = some (.int .u64 y.o) := h2 k 3 y _ hy rfl
        have e4 : w.cell? ⟨b2, o2 + k * 6 + 4, none⟩ = some (.int .u64 y.n) := h2 k 4 y _ hy rfl
        have e5 : w.cell? ⟨b2, o2 + k * 6 + 5, none⟩ = some (.bool y.s) := h2 k 5 y _ hy rfl
        have Hx := hid hx
        have Hy := hid hy
        clear h1 h2 hx hy
        by_cases he : accB x y = true
        · go_wp2_with fail
          refine Mix.wp_region_mix (fun _ => True) (fun i => ([0, 0, 0, 0, 0, 0, 0, 0, 0] : List Nat).getD i 0) [0, 1, 2, 3, 4, 5, 6, 7, 8] (by kernel_rfl) (by kernel_rfl) ?_
          iterate 8 (refine Mix.mix_q (by simp only [List.getElem?_toArray, List.getElem?_cons_zero, List.getElem?_cons_succ]; exact rfl) rfl ?_; go_big_quiet_step (fail); refine wpQuiet_nil ?_)
          refine Mix.mix_v (by simp only [List.getElem?_toArray, List.getElem?_cons_zero, List.getElem?_cons_succ]; exact rfl) rfl (.bool false) rfl (fun W _ => by rw [exec_acc_neq (x := x) (y := y) rfl rfl rfl W, he]; rfl) ?_
          simp only [Act.put, List.setIfInBounds_toArray, List.set_cons_succ, List.set_cons_zero]
          intro n1
          go_wp2_with fail
          go_roundw
          case rel => exact ⟨k + 1, by omega, by go_num, _, rfl⟩
          case measure => simp [intOf]; omega
        · have he' : accB x y = false := by simpa using he
          go_wp2_with fail
          refine Mix.wp_region_mix (fun _ => True) (fun i => ([0, 0, 0, 0, 0, 0, 0, 0, 0] : List Nat).getD i 0) [0, 1, 2, 3, 4, 5, 6, 7, 8] (by kernel_rfl) (by kernel_rfl) ?_
          iterate 8 (refine Mix.mix_q (by simp only [List.getElem?_toArray, List.getElem?_cons_zero, List.getElem?_cons_succ]; exact rfl) rfl ?_; go_big_quiet_step (fail); refine wpQuiet_nil ?_)
          refine Mix.mix_v (by simp only [List.getElem?_toArray, List.getElem?_cons_zero, List.getElem?_cons_succ]; exact rfl) rfl (.bool true) rfl (fun W _ => by rw [exec_acc_neq (x := x) (y := y) rfl rfl rfl W, he']; rfl) ?_
          simp only [Act.put, List.setIfInBounds_toArray, List.set_cons_succ, List.set_cons_zero]
          intro n1
          go_wp2_with fail
          go_ret
          refine ⟨fun hxy => ?_, _, World.drewN_drewN _ _ _⟩
          have hxy2 := Hy.out
          rw [← hxy, Hx.out] at hxy2
          exact absurd ((accB_iff x y).2 (Option.some.inj hxy2)) he
      · go_wp2_with fail
        go_ret
        exact ⟨fun _ => rfl, _, rfl⟩
  · have hne : ((n : Int) != (m : Int)) = true := by rw [bne_iff_ne]; omega
    go_enter Try.func50, Try.ntmps50
    go_wp2_with fail
    go_ret
    exact ⟨fun hxy => absurd (by rw [← ha.1, ← hb.1, hxy]) hnm, 0, rfl⟩

/-- A slice of accesses that the call owns. -/
def Owned (w w' : World) (lg : List Acc) (e : Ending) : Prop := ∃ v, e = .returned v ∧ w'.ownsRow w.heap.size 120 6 v lg.length (logCells lg) ∧ Ch (fun _ => False) w w'

end Go.Proofs.Ytonjbofdmmnpdaa
