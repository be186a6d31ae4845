/- The bank of cells: what its memory holds, and its small functions. -/
import Derived.Test.YtefpabicgefciaaRows
import Derived.Test.YtefpabicgefciaaLib
import Derived.Test.YtefpabicgefciaaMix
import Derived.BigGuardPart
namespace Go.Proofs.Ytefpabicgefciaa
open Go.RowKit
set_option linter.unusedSimpArgs false

/-- An access. -/
structure Acc where
  t : Int
  c : Int
  k : Int
  o : Int
  n : Int
  s : Bool
def Acc.cells (x : Acc) : List Value := [.int .i64 x.t, .int .i64 x.c, .int .u8 x.k, .int .u64 x.o, .int .u64 x.n, .bool x.s]
def logCells (l : List Acc) : List Value := l.flatMap Acc.cells
def u64s (l : List Int) : Array Value := (l.map (Value.int .u64)).toArray
theorem u64s_get (l : List Int) (i : Nat) (h : i < l.length) : (u64s l)[i]? = some (.int .u64 l[i]) := by simp [u64s, h]
theorem u64s_getD (l : List Int) (i : Nat) (h : i < l.length) : (u64s l)[i]? = some (.int .u64 (lk l i)) := by simp [u64s, lk, h]
theorem u64s_set (l : List Int) (i : Nat) (v : Int) : (u64s l).setIfInBounds i (.int .u64 v) = u64s (l.set i v) := by
  simp [u64s, List.map_set]
theorem logCells_snoc (l : List Acc) (x : Acc) : logCells (l ++ [x]) = logCells l ++ x.cells := by simp [logCells]
theorem logCells_length (l : List Acc) : (logCells l).length = l.length * 6 := by
  induction l with
  | nil => rfl
  | cons x l ih => simp only [logCells, List.flatMap_cons, List.length_append, List.length_cons] at ih ⊢; rw [ih]; simp [Acc.cells]; omega

/-- The bank at block p: its values, its log. -/
structure Bank (B : Nat) (w : World) (p cb : Nat) (lv : Value) (vs : List Int) (lg : List Acc) : Prop where
  hp : Blk w p 92 #[.slice (some ⟨cb, 0, none⟩) vs.length vs.length, lv]
  hc : Blk w cb 146 (u64s vs)
  hl : w.ownsRow B 222 6 lv lg.length (logCells lg)
  hv : ∀ x ∈ vs, 0 ≤ x ∧ x < 18446744073709551616
  hn : vs.length ≤ 4096
  bp : B ≤ p
  bc : B ≤ cb

theorem Try.cells_cell : Try.prog.cellsOf 146 = 1 := by kernel_rfl
theorem Try.infoAcc : (Try.prog.info? 222).map (fun i => (i.zero, i.size, i.bytes)) = some (some (.agg #[.int .i64 0, .int .i64 0, .int .u8 0, .int .u64 0, .int .u64 0, .bool false]), 6, 48) := by kernel_rfl

theorem Bank.ch {B : Nat} {w w' : World} {p cb : Nat} {lv : Value} {vs : List Int} {lg : List Acc} {fp : Nat → Prop} (h : Bank B w p cb lv vs lg) (c : Ch fp w w')
    (h1 : ¬ fp p) (h2 : ¬ fp cb) (h3 : ∀ k, lv.ownBlock = some k → ¬ fp k) : Bank B w' p cb lv vs lg :=
  ⟨c.blk h.hp h1, c.blk h.hc h2, c.own h.hl h3, h.hv, h.hn, h.bp, h.bc⟩

/-- The error of an access. -/
def chk (n : Nat) (t c : Int) : Int := if t < 0 ∨ 16 ≤ t then 2 else if c < 0 ∨ (n : Int) ≤ c then 3 else 0

set_option linter.unusedVariables false
theorem aload_run (w : World) (a : Addr) (x : Int) (h : w.cell? a = some (.int .u64 x)) : Sem.run Try.prog (callFunc 48 #[.pointer (some a)]) w = .ok (.value (.int .u64 x)) w :=
  run_call_load Try.func48 (by kernel_rfl) (by kernel_rfl) (by kernel_rfl) .u64 (by kernel_rfl) h

set_option maxHeartbeats 400000 in
theorem aload (w : World) (b o : Nat) (x : Int) (h : w.cell? ⟨b, o, none⟩ = some (.int .u64 x)) :
    Calls Try.prog 40 #[.pointer (some ⟨b, o, none⟩)] w fun e w' => e = .returned (.int .u64 x) ∧ w = w' := by
  have hr := aload_run w ⟨b, o, none⟩ x h
  go_enter Try.func40, Try.ntmps40
  go_wp2
  go_ret
  exact ⟨rfl, rfl⟩

end Go.Proofs.Ytefpabicgefciaa
