/- Runes: Decode of the reference. -/
import Derived.Test.YtefpabicgefciaaRunesC
namespace Go.Proofs.Ytefpabicgefciaa
open Go.RowKit
set_option linter.unusedVariables false

/-- The number after the first k bytes, the first one giving x. -/
def racc (l : List Int) (x : Int) : Nat → Int
  | 0 => 0
  | 1 => x
  | k + 2 => 64 * racc l x (k + 1) + lk l (k + 1) - 128
theorem racc_succ (l : List Int) (x : Int) (k : Nat) (h : 1 ≤ k) : racc l x (k + 1) = 64 * racc l x k + lk l k - 128 := by
  obtain ⟨k, rfl⟩ : ∃ j, k = j + 1 := ⟨k - 1, by omega⟩
  rfl
theorem bs_take (s : ByteArray) (n : Nat) : bs (s.extract 0 n) = (bs s).take n := by
  unfold bs
  rw [← List.map_take]
  congr 1
  simp [ByteArray.data_extract]

theorem eqb_of {a b : ByteArray} (h : bs a = bs b) : (a.toList == b.toList) = true := by rw [bs_inj h]; simp
theorem eqb_not {a b : ByteArray} (h : bs a ≠ bs b) : (a.toList == b.toList) = false := by
  cases hx : (a.toList == b.toList) with
  | false => rfl
  | true =>
    have h1 := eq_of_beq hx
    rw [ByteArray.toList_eq, ByteArray.toList_eq] at h1
    exact absurd (by unfold bs; rw [h1]) h
theorem encL_bd {r : Int} (h : runeB r = true) : ∀ z ∈ encL r, 0 ≤ z ∧ z < 256 := by
  have := runeB_bd h
  unfold encL
  intro z hz
  split at hz
  · simp at hz; omega
  · split at hz
    · simp at hz; rcases hz with rfl | rfl <;> omega
    · split at hz
      · simp at hz; rcases hz with rfl | rfl | rfl <;> omega
      · simp at hz; rcases hz with rfl | rfl | rfl | rfl <;> omega

/-- Is what was decoded what the bytes say? -/
def rgood (l : List Int) (n : Nat) (x : Int) : Prop := n ≤ l.length ∧ contTo l n ∧ runeB (racc l x n) = true ∧ encL (racc l x n) = l.take n
def RDecP (l : List Int) (n : Nat) (x : Int) (w : World) (e : Ending) (w' : World) : Prop :=
  Below w.heap.size w w' ∧ (rgood l n x ∧ e = .returned (.tuple #[.int .i64 (racc l x n), .int .i64 n, .int .i64 0]) ∨ ¬ rgood l n x ∧ e = .returned (.tuple #[.int .i64 0, .int .i64 0, .int .i64 11]))
theorem rdecP_bad {l : List Int} {n : Nat} {x : Int} {w w' : World} (hb : Below w.heap.size w w') (h : ¬ rgood l n x) : RDecP l n x w (.returned (.tuple #[.int .i64 0, .int .i64 0, .int .i64 11])) w' := ⟨hb, .inr ⟨h, rfl⟩⟩

end Go.Proofs.Ytefpabicgefciaa
