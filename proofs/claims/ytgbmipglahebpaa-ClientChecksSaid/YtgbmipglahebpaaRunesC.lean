/- Runes: Encode and Decode of the reference. -/
import Derived.Test.YtgbmipglahebpaaRunesB
namespace Go.Proofs.Ytgbmipglahebpaa
open Go.RowKit
set_option linter.unusedVariables false

/-- A string out of bytes. -/
def ofInts (zs : List Int) : ByteArray := ⟨(zs.map fun z => UInt8.ofNat z.toNat).toArray⟩
theorem bs_ofInts (zs : List Int) (h : ∀ z ∈ zs, 0 ≤ z ∧ z < 256) : bs (ofInts zs) = zs := by
  unfold bs ofInts
  simp only [List.map_map]
  conv => rhs; rw [← List.map_id zs]
  apply List.map_congr_left
  intro z hz
  have := h z hz
  simp only [Function.comp, UInt8.toNat_ofNat', id]
  omega
theorem bs_inj {a b : ByteArray} (h : bs a = bs b) : a = b := by
  apply ByteArray.ext
  apply Array.toList_inj.1
  unfold bs at h
  have hl : a.data.toList.length = b.data.toList.length := by simpa using congrArg List.length h
  apply List.ext_getElem hl
  intro i h1 h2
  have h3 : ((a.data.toList.map fun c => (c.toNat : Int)))[i]'(by simpa using h1) = ((b.data.toList.map fun c => (c.toNat : Int)))[i]'(by simpa using h2) := by simp only [h]
  simp only [List.getElem_map] at h3
  exact UInt8.toNat_inj.1 (by omega)
theorem conv_bytes (w : World) (zs : List Int) (hz : ∀ z ∈ zs, 0 ≤ z ∧ z < 256) (n cap : Nat) (hn : zs.length = n) (b : Nat) (hc : ∀ (j : Nat) z, zs[j]? = some z → w.cell? ⟨b, j, none⟩ = some (.int .u8 z)) :
    Sem.run Try.prog (convert 52 9 (.slice (some ⟨b, 0, none⟩) n cap)) w = .ok (.string (ofInts zs)) w := by
  have h := run_convert_bytes_back (P := Try.prog) w 52 9 5 ⟨b, 0, none⟩ cap (zs.map fun z => UInt8.ofNat z.toNat) Try.underlying52 Try.underlying5 Try.underlying9 ?_
  · rw [List.length_map, hn] at h
    exact h
  · intro j hj
    rw [addr_add0]
    have hj' : j < zs.length := by simpa using hj
    rw [hc j _ (List.getElem?_eq_getElem hj')]
    have := hz _ (List.getElem_mem hj')
    simp only [List.getElem_map, UInt8.toNat_ofNat']
    congr 2
    omega

/-- The bytes of the encoding of a rune. -/
def encL (r : Int) : List Int :=
  if r < 128 then [r] else if r < 2048 then [192 + r / 64, 128 + r % 64] else if r < 65536 then [224 + r / 4096, 128 + r / 64 % 64, 128 + r % 64]
  else [240 + r / 262144, 128 + r / 4096 % 64, 128 + r / 64 % 64, 128 + r % 64]
def EncP (r : Int) (w : World) (e : Ending) (w' : World) : Prop := e = .returned (.tuple #[.string (ofInts (encL r)), .int .i64 0]) ∧ Below w.heap.size w w'

set_option maxHeartbeats 400000 in
theorem enc1_any (r : Int) (w : World) (hr : runeB r = true) (h1 : 0 ≤ r) (h2 : r < 128) : Calls Try.prog 22 #[.int .i64 r] w (EncP r w) := by
  have he : encL r = [r] := by
    unfold encL
    repeat (first | rw [if_pos (by omega)] | rw [if_neg (by omega)])
  unfold EncP
  rw [he]
  have hcv := conv_bytes (w.alloc (.cells #[.int .u8 (r)] 5)) [r] (by intro z hz; simp at hz; omega) 1 1 rfl w.heap.size (by intro j z hj; rw [(Blk.new w 5 _).cell j]; match j, hj with | 0, hj => simp at hj ⊢; exact hj | j + 1, hj => simp at hj)
  generalize ofInts [r] = S at hcv ⊢
  clear he
  go_enter Try.func22, Try.ntmps22
  go_wp2_with fail
  refine (rrune_any _ _).mono ?_
  rintro e w0 ⟨rfl, rfl⟩
  rw [hr]
  go_wp2_with fail
  go_ret2
  exact ⟨rfl, (Below.refl _ _).alloc (Nat.le_refl _) _⟩
set_option maxHeartbeats 400000 in
theorem enc2_any (r : Int) (w : World) (hr : runeB r = true) (h1 : 128 ≤ r) (h2 : r < 2048) : Calls Try.prog 22 #[.int .i64 r] w (EncP r w) := by
  have he : encL r = [192 + r / 64, 128 + r % 64] := by
    unfold encL
    repeat (first | rw [if_pos (by omega)] | rw [if_neg (by omega)])
  unfold EncP
  rw [he]
  have hcv := conv_bytes (w.alloc (.cells #[.int .u8 (192 + r / 64), .int .u8 (128 + r % 64)] 5)) [192 + r / 64, 128 + r % 64] (by intro z hz; simp at hz; rcases hz with rfl | rfl <;> omega) 2 2 rfl w.heap.size (by intro j z hj; rw [(Blk.new w 5 _).cell j]; match j, hj with | 0, hj => simp at hj ⊢; exact hj | 1, hj => simp at hj ⊢; exact hj | j + 2, hj => simp at hj)
  generalize ofInts [192 + r / 64, 128 + r % 64] = S at hcv ⊢
  clear he
  go_enter Try.func22, Try.ntmps22
  go_wp2_with fail
  refine (rrune_any _ _).mono ?_
  rintro e w0 ⟨rfl, rfl⟩
  rw [hr]
  go_wp2_with fail
  go_ret2
  exact ⟨rfl, (Below.refl _ _).alloc (Nat.le_refl _) _⟩
set_option maxHeartbeats 400000 in
theorem enc3_any (r : Int) (w : World) (hr : runeB r = true) (h1 : 2048 ≤ r) (h2 : r < 65536) : Calls Try.prog 22 #[.int .i64 r] w (EncP r w) := by
  have he : encL r = [224 + r / 4096, 128 + r / 64 % 64, 128 + r % 64] := by
    unfold encL
    repeat (first | rw [if_pos (by omega)] | rw [if_neg (by omega)])
  unfold EncP
  rw [he]
  have hcv := conv_bytes (w.alloc (.cells #[.int .u8 (224 + r / 4096), .int .u8 (128 + r / 64 % 64), .int .u8 (128 + r % 64)] 5)) [224 + r / 4096, 128 + r / 64 % 64, 128 + r % 64] (by intro z hz; simp at hz; rcases hz with rfl | rfl | rfl <;> omega) 3 3 rfl w.heap.size (by intro j z hj; rw [(Blk.new w 5 _).cell j]; match j, hj with | 0, hj => simp at hj ⊢; exact hj | 1, hj => simp at hj ⊢; exact hj | 2, hj => simp at hj ⊢; exact hj | j + 3, hj => simp at hj)
  generalize ofInts [224 + r / 4096, 128 + r / 64 % 64, 128 + r % 64] = S at hcv ⊢
  clear he
  go_enter Try.func22, Try.ntmps22
  go_wp2_with fail
  refine (rrune_any _ _).mono ?_
  rintro e w0 ⟨rfl, rfl⟩
  rw [hr]
  go_wp2_with fail
  go_ret2
  exact ⟨rfl, (Below.refl _ _).alloc (Nat.le_refl _) _⟩
set_option maxHeartbeats 400000 in
theorem enc4_any (r : Int) (w : World) (hr : runeB r = true) (h1 : 65536 ≤ r) (h2 : r ≤ 1114111) : Calls Try.prog 22 #[.int .i64 r] w (EncP r w) := by
  have he : encL r = [240 + r / 262144, 128 + r / 4096 % 64, 128 + r / 64 % 64, 128 + r % 64] := by
    unfold encL
    repeat (first | rw [if_pos (by omega)] | rw [if_neg (by omega)])
  unfold EncP
  rw [he]
  have hcv := conv_bytes (w.alloc (.cells #[.int .u8 (240 + r / 262144), .int .u8 (128 + r / 4096 % 64), .int .u8 (128 + r / 64 % 64), .int .u8 (128 + r % 64)] 5)) [240 + r / 262144, 128 + r / 4096 % 64, 128 + r / 64 % 64, 128 + r % 64] (by intro z hz; simp at hz; rcases hz with rfl | rfl | rfl | rfl <;> omega) 4 4 rfl w.heap.size (by intro j z hj; rw [(Blk.new w 5 _).cell j]; match j, hj with | 0, hj => simp at hj ⊢; exact hj | 1, hj => simp at hj ⊢; exact hj | 2, hj => simp at hj ⊢; exact hj | 3, hj => simp at hj ⊢; exact hj | j + 4, hj => simp at hj)
  generalize ofInts [240 + r / 262144, 128 + r / 4096 % 64, 128 + r / 64 % 64, 128 + r % 64] = S at hcv ⊢
  clear he
  go_enter Try.func22, Try.ntmps22
  go_wp2_with fail
  refine (rrune_any _ _).mono ?_
  rintro e w0 ⟨rfl, rfl⟩
  rw [hr]
  go_wp2_with fail
  go_ret2
  exact ⟨rfl, (Below.refl _ _).alloc (Nat.le_refl _) _⟩
set_option maxHeartbeats 400000 in
theorem enc_bad (r : Int) (w : World) (hr : runeB r = false) : Calls Try.prog 22 #[.int .i64 r] w fun e w' => e = .returned (.tuple #[.string ⟨#[]⟩, .int .i64 2]) ∧ w = w' := by
  go_enter Try.func22, Try.ntmps22
  go_wp2_with fail
  refine (rrune_any _ _).mono ?_
  rintro e w0 ⟨rfl, rfl⟩
  rw [hr]
  go_wp2_with fail
  go_ret2
  exact ⟨rfl, rfl⟩
theorem runeB_bd {r : Int} (h : runeB r = true) : 0 ≤ r ∧ r ≤ 1114111 := by simp [runeB] at h; omega
theorem enc_any (r : Int) (w : World) (hr : runeB r = true) : Calls Try.prog 22 #[.int .i64 r] w (EncP r w) := by
  have := runeB_bd hr
  by_cases h1 : r < 128
  · exact enc1_any r w hr (by omega) h1
  · by_cases h2 : r < 2048
    · exact enc2_any r w hr (by omega) h2
    · by_cases h3 : r < 65536
      · exact enc3_any r w hr (by omega) h3
      · exact enc4_any r w hr (by omega) (by omega)
end Go.Proofs.Ytgbmipglahebpaa
