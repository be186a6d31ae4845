/- possible, Replay. -/
import Derived.Test.YtefpabicgefciaaConsPlain
namespace Go.Proofs.Ytefpabicgefciaa
open Go.RowKit
set_option linter.unusedSimpArgs false
set_option linter.unusedVariables false

def Acc.agg (x : Acc) : Value := .agg #[.int .i64 x.t, .int .i64 x.c, .int .u8 x.k, .int .u64 x.o, .int .u64 x.n, .bool x.s]

/-- Is an access possible for a cell that holds v? -/
def possB (x : Acc) (v : Int) : Bool :=
  if x.o = v then
    (if x.s = true then x.k == 5
     else if x.k = 1 then x.n == x.o
     else if x.k = 5 then x.n == x.o
     else x.k == 2 || x.k == 3 || x.k == 4)
  else false

/-- The accesses that came in. -/
def InAccs (w : World) (a : Option Addr) (n : Nat) (lg : List Acc) : Prop :=
  lg.length = n ∧ (0 < n → ∃ b off, a = some ⟨b, off, none⟩ ∧ b < w.heap.size ∧ ∀ (i j : Nat) x v, lg[i]? = some x → x.cells[j]? = some v → w.cell? ⟨b, off + (i * 6 + j), none⟩ = some v)
theorem InAccs.ch {w w' : World} {a : Option Addr} {n : Nat} {lg : List Acc} {fp : Nat → Prop} (h : InAccs w a n lg) (hc : Ch fp w w') (hf : ∀ b off, a = some ⟨b, off, none⟩ → ¬ fp b) : InAccs w' a n lg :=
  ⟨h.1, fun h0 => by
    obtain ⟨b, off, rfl, hb, hcell⟩ := h.2 h0
    exact ⟨b, off, rfl, Nat.lt_of_lt_of_le hb hc.size, fun i j x v hi hj => (hc.cell (p := ⟨b, off + (i * 6 + j), none⟩) hb (hf b off rfl)).trans (hcell i j x v hi hj)⟩⟩
theorem blk_accs {w : World} {b : Nat} {lg : List Acc} (h : Blk w b 222 (logCells lg).toArray) : InAccs w (some ⟨b, 0, none⟩) lg.length lg :=
  ⟨rfl, fun _ => ⟨b, 0, rfl, h.lt, fun i j x v hi hj => by rw [Nat.zero_add]; exact (h.cell _).trans (by simpa using logCells_get lg i x hi j v hj)⟩⟩

def okAt (vs : List Int) (x : Acc) : Bool := decide (0 ≤ x.t ∧ x.t < 16 ∧ 0 ≤ x.c ∧ x.c < vs.length) && possB x (lk vs x.c.toNat)
def repF (vs : List Int) (k : Nat) : List Acc → Option (List Int) × Nat
  | [] => (some vs, k)
  | x :: l => if okAt vs x = true then repF (vs.set x.c.toNat x.n) (k + 1) l else (none, k)

/-- What Replay hands back. -/
def RepAns (n : Nat) (w w' : World) (r : Option (List Int) × Nat) (e : Ending) : Prop :=
  Ch (fun _ => False) w w' ∧ match r.1 with
    | some vs => vs.length = n ∧ ∃ b, e = .returned (.tuple #[.slice (some ⟨b, 0, none⟩) n n, .int .i64 r.2, .int .i64 0]) ∧ Blk w' b 27 (u64s vs)
    | none => e = .returned (.tuple #[.slice none 0 0, .int .i64 r.2, .int .i64 25])

end Go.Proofs.Ytefpabicgefciaa
