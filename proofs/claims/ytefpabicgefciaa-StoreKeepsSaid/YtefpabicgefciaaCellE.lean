/- The bank's log; slices compared. -/
import Derived.Test.YtefpabicgefciaaCellD
import Derived.Laws.CopyOwn
namespace Go.Proofs.Ytefpabicgefciaa
open Go.RowKit
set_option linter.unusedVariables false
set_option linter.unusedSimpArgs false

/-- Where a log is cut: min(max(from, 0), n). -/
def cutAt (f : Int) (n : Nat) : Nat := if f ≤ 0 then 0 else if (n : Int) ≤ f then n else f.toNat
theorem cutAt_le (f : Int) (n : Nat) : cutAt f n ≤ n := by unfold cutAt; split <;> (try split) <;> omega

theorem logCells_drop (l : List Acc) (i : Nat) : (logCells l).drop (i * 6) = logCells (l.drop i) := by
  induction l generalizing i with
  | nil => simp [logCells]
  | cons x l ih =>
    cases i with
    | zero => simp [logCells]
    | succ i =>
      have : (i + 1) * 6 = x.cells.length + i * 6 := by simp [Acc.cells]; omega
      simp only [List.drop_succ_cons]
      rw [← ih i]
      simp only [logCells, List.flatMap_cons]
      rw [this, ← List.drop_drop, List.drop_left]
theorem acc_one (l : List Acc) : ∀ u ∈ logCells l, u.oneCell' = true := by
  intro u hu
  simp only [logCells, List.mem_flatMap] at hu
  obtain ⟨x, _, hu⟩ := hu
  simp [Acc.cells] at hu
  rcases hu with rfl | rfl | rfl | rfl | rfl | rfl <;> rfl

/-- A slice of accesses that the call made: a block of its own, full. -/
def Accs (w w' : World) (l : List Acc) (e : Ending) : Prop := ∃ b, e = .returned (.slice (some ⟨b, 0, none⟩) l.length l.length) ∧ Blk w' b 222 (logCells l).toArray ∧ Ch (fun _ => False) w w' ∧ w.heap.size ≤ b

theorem run_max0 {P : Program} (tys : Array TypeId) (t : TypeId) (f : Int) (w : World) : (Builtin.max_ tys t #[.int .i64 f, .int .i64 0]).run P w = .ok (.int .i64 (f.toNat : Int)) w := by
  simp only [Builtin.max_, List.foldlM_cons, List.foldlM_nil, Builtin.max2]
  simp
  omega
theorem run_min {P : Program} (tys : Array TypeId) (t : TypeId) (m n : Nat) (w : World) : (Builtin.min_ tys t #[.int .i64 (m : Int), .int .i64 (n : Int)]).run P w = .ok (.int .i64 ((min m n : Nat) : Int)) w := by
  simp only [Builtin.min_, List.foldlM_cons, List.foldlM_nil, Builtin.min2]
  simp
  split <;> omega
theorem cutAt_min (f : Int) (n : Nat) : min f.toNat n = cutAt f n := by
  unfold cutAt
  split
  · omega
  · split <;> omega

theorem run_slice_low {P : Program} (t e : TypeId) (size : Nat) (ht : P.underlying t = some (.slice e)) (hz : (P.info? e).map (·.size) = some size) (A : Option Addr) (n cap i : Nat) (hi : i ≤ n) (hc : n ≤ cap) (w : World) :
    (Instr.sliceAt t (.slice A n cap) (some (.int .i64 (i : Int))) none none).run P w = .ok (.slice (if cap = i then A else A.map (·.add (i * size))) (n - i) (cap - i)) w := by
  cases hq : P.info? e with
  | none => simp [hq] at hz
  | some inf =>
    have hsz : inf.size = size := by simpa [hq] using hz
    have h1 : (0 : Int) ≤ (i : Int) ∧ (i : Int) ≤ (n : Int) := by omega
    simp only [Instr.sliceAt, Sem.run_bind, run_underlying ht, Result.andThen_ok, Instr.slice, Instr.sliceBounds, Instr.sliceBound, asIntOf, Sem.run_pure, h1, and_self, if_true, Int.toNat_natCast, sizeOf, typeInfo, hq]
    simp [program, Sem.run, hq, hsz]

/-- Two slices of words are compared. -/
def SameWords (w : World) (a : Option Addr) (n : Nat) (xs : List Int) : Prop := xs.length = n ∧ (0 < n → ∃ b off, a = some ⟨b, off, none⟩ ∧ ∀ i, i < n → w.cell? ⟨b, off + i, none⟩ = some (.int .u64 (lk xs i)))

theorem lk_ext {xs ys : List Int} (hl : xs.length = ys.length) (h : ∀ i, i < xs.length → lk xs i = lk ys i) : xs = ys := by
  apply List.ext_getElem hl
  intro i h1 h2
  have := h i h1
  simpa [lk, h1, h2] using this

end Go.Proofs.Ytefpabicgefciaa
