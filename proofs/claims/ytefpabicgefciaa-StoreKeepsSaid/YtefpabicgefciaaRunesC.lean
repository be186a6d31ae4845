/- Runes: Encode and Decode of the reference. -/
import Derived.Test.YtefpabicgefciaaRunesB
namespace Go.Proofs.Ytefpabicgefciaa
open Go.RowKit
set_option linter.unusedVariables false

/-- A string out of bytes. -/
def ofInts (zs : List Int) : ByteArray := ⟨(zs.map fun z => UInt8.ofNat z.toNat).toArray⟩
theorem bs_ofInts (zs : List Int) (h : ∀ z ∈ zs, 0 ≤ z ∧ z < 256) : bs (ofInts zs) = zs := by
  unfold bs ofInts
  simp only [List.map_map]
  conv => rhs; rw [← List.map_id zs]
  apply List.map_congr_left
  intro z hz
  have := h z hz
  simp only [Function.comp, UInt8.toNat_ofNat', id]
  omega
theorem bs_inj {a b : ByteArray} (h : bs a = bs b) : a = b := by
  apply ByteArray.ext
  apply Array.toList_inj.1
  unfold bs at h
  have hl : a.data.toList.length = b.data.toList.length := by simpa using congrArg List.length h
  apply List.ext_getElem hl
  intro i h1 h2
  have h3 : ((a.data.toList.map fun c => (c.toNat : Int)))[i]'(by simpa using h1) = ((b.data.toList.map fun c => (c.toNat : Int)))[i]'(by simpa using h2) := by simp only [h]
  simp only [List.getElem_map] at h3
  exact UInt8.toNat_inj.1 (by omega)
/-- The bytes of the encoding of a rune. -/
def encL (r : Int) : List Int :=
  if r < 128 then [r] else if r < 2048 then [192 + r / 64, 128 + r % 64] else if r < 65536 then [224 + r / 4096, 128 + r / 64 % 64, 128 + r % 64]
  else [240 + r / 262144, 128 + r / 4096 % 64, 128 + r / 64 % 64, 128 + r % 64]
def EncP (r : Int) (w : World) (e : Ending) (w' : World) : Prop := e = .returned (.tuple #[.string (ofInts (encL r)), .int .i64 0]) ∧ Below w.heap.size w w'

theorem runeB_bd {r : Int} (h : runeB r = true) : 0 ≤ r ∧ r ≤ 1114111 := by simp [runeB] at h; omega
end Go.Proofs.Ytefpabicgefciaa
