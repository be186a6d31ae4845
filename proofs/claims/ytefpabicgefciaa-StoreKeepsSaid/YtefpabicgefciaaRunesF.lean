/- Runes: Decode and Valid of both, by one word each. -/
import Derived.Test.YtefpabicgefciaaRunesE
namespace Go.Proofs.Ytefpabicgefciaa
open Go.RowKit
set_option linter.unusedVariables false
set_option linter.unusedSimpArgs false

/-- What Decode returns. -/
def DecAny (l : List Int) (w : World) (e : Ending) (w' : World) : Prop :=
  Below w.heap.size w w' ∧ (dgood l ∧ e = .returned (.tuple #[.int .i64 (dval l), .int .i64 (dlen l), .int .i64 0]) ∨ ¬ dgood l ∧ e = .returned (.tuple #[.int .i64 0, .int .i64 0, .int .i64 (if l.length = 0 then 3 else 11)]))
theorem size_nil {s : ByteArray} (h : s.size = 0) : s.toList.isEmpty = true := by
  rw [ByteArray.toList_eq]
  have : s.data.toList.length = 0 := by simpa using h
  rw [List.eq_nil_of_length_eq_zero this]; rfl
theorem dgood_nil {l : List Int} (h : l.length = 0) : ¬ dgood l := fun hg => by have := hg.1; omega

theorem dec_nil (s : ByteArray) (w : World) (hs : s.size = 0) : Calls Try.prog 42 #[.string s] w fun e w' => e = .returned (.tuple #[.int .i64 0, .int .i64 0, .int .i64 3]) ∧ w = w' := by
  have he := size_nil hs
  clear hs
  go_enter Try.func42, Try.ntmps42
  go_wp2_with fail
  go_ret3
  exact ⟨rfl, rfl⟩
set_option maxHeartbeats 400000 in
theorem dec_short (s : ByteArray) (w : World) (hs : 0 < s.size) (hm : s.size ≤ 1000000) (h : ann (lk (bs s) 0) = 0 ∨ (s.size : Int) < ann (lk (bs s) 0)) : Calls Try.prog 42 #[.string s] w fun e w' => e = .returned (.tuple #[.int .i64 0, .int .i64 0, .int .i64 11]) ∧ w = w' := by
  have he := size_data hs
  have h0 := bs_get s 0 hs
  go_enter Try.func42, Try.ntmps42
  go_wp2_with fail
  refine (ann_any _ _).mono ?_
  rintro e w0 ⟨rfl, rfl⟩
  rcases h with h | h
  · rw [h]
    go_wp2_with fail
    go_ret3
    exact ⟨rfl, rfl⟩
  · have d0 : (ann (lk (bs s) 0) == 0) = false := by rw [beq_eq_false_iff_ne]; omega
    have d1 : decide ((s.size : Int) < ann (lk (bs s) 0)) = true := by simpa using h
    go_wp2_with fail
    go_ret3
    exact ⟨rfl, rfl⟩

theorem decP_any {l : List Int} {n : Nat} {ni : Int} {w w' : World} {e : Ending} (hi : ni = n) (hn : dlen l = ni) (h0 : 0 < l.length) (h1 : 1 ≤ n) (h2 : n ≤ l.length) (h : DecP l n ni w e w') : DecAny l w e w' := by
  obtain ⟨rfl, h⟩ := h
  refine ⟨Below.refl _ _, ?_⟩
  have hg : dgood l ↔ contTo l n ∧ rlen (acc l ni n) = ni := by
    unfold dgood dval
    rw [hn, show ni.toNat = n by omega]
    constructor
    · exact fun h => h.2.2.2
    · exact fun h => ⟨h0, by omega, by omega, h⟩
  rcases h with ⟨h, rfl⟩ | ⟨h, rfl⟩
  · refine .inl ⟨hg.2 h, ?_⟩
    unfold dval
    rw [hn, show ni.toNat = n by omega]
  · refine .inr ⟨fun h' => h (hg.1 h'), ?_⟩
    rw [if_neg (by omega)]

theorem dec_any (s : ByteArray) (w : World) (hm : s.size ≤ 1000000) : Calls Try.prog 42 #[.string s] w (DecAny (bs s) w) := by
  have hl := bs_length s
  by_cases h0 : s.size = 0
  · exact (dec_nil s w h0).mono fun e w' ⟨he, hw⟩ => hw ▸ ⟨Below.refl _ _, .inr ⟨dgood_nil (by omega), by rw [he, if_pos (by omega)]⟩⟩
  · by_cases hn : ann (lk (bs s) 0) = 0 ∨ (s.size : Int) < ann (lk (bs s) 0)
    · refine (dec_short s w (by omega) hm hn).mono fun e w' ⟨he, hw⟩ => hw ▸ ⟨Below.refl _ _, .inr ⟨fun hg => ?_, by rw [he, if_neg (by omega)]⟩⟩
      have h1 := hg.2.1
      have h2 := hg.2.2.1
      unfold dlen at h1 h2
      omega
    · rcases ann_cases (lk (bs s) 0) with h | h | h | h | h
      · exact absurd (.inl h) hn
      · exact (dec1_any s w (by omega) hm h).mono fun e w' hp => decP_any (by rfl) h (by omega) (by omega) (by omega) hp
      · exact (dec2_any s w (by omega) hm h).mono fun e w' hp => decP_any (by rfl) h (by omega) (by omega) (by omega) hp
      · exact (dec3_any s w (by omega) hm h).mono fun e w' hp => decP_any (by rfl) h (by omega) (by omega) (by omega) hp
      · exact (dec4_any s w (by omega) hm h).mono fun e w' hp => decP_any (by rfl) h (by omega) (by omega) (by omega) hp

theorem rdecP_any {l : List Int} {n : Nat} {x : Int} {w w' : World} {e : Ending} (h0 : 0 < l.length) (hg : rgood l n x ↔ dgood l) (hv : dgood l → racc l x n = dval l ∧ (n : Int) = dlen l) (h : RDecP l n x w e w') : DecAny l w e w' := by
  obtain ⟨hb, h⟩ := h
  refine ⟨hb, ?_⟩
  rcases h with ⟨h, rfl⟩ | ⟨h, rfl⟩
  · have hd := hg.1 h
    refine .inl ⟨hd, ?_⟩
    rw [(hv hd).1, (hv hd).2]
  · refine .inr ⟨fun h' => h (hg.2 h'), ?_⟩
    rw [if_neg (by omega)]

theorem short4 {l : List Int} (h : l.length < 4) (h1 : 240 ≤ lk l 0) : ¬ dgood l := fun hg => by
  have a := hg.2.1
  have b := hg.2.2.1
  unfold dlen at a b
  by_cases h2 : lk l 0 ≤ 244
  · rw [ann4 h1 h2] at b; omega
  · rw [ann0 (by omega)] at a; omega
theorem short3 {l : List Int} (h : l.length < 3) (h1 : 224 ≤ lk l 0) (h2 : lk l 0 < 240) : ¬ dgood l := fun hg => by
  have b := hg.2.2.1
  unfold dlen at b
  rw [ann3 h1 h2] at b; omega
theorem short2 {l : List Int} (h : l.length < 2) (h1 : 192 ≤ lk l 0) (h2 : lk l 0 < 224) : ¬ dgood l := fun hg => by
  have a := hg.2.1
  have b := hg.2.2.1
  unfold dlen at a b
  by_cases h3 : 194 ≤ lk l 0
  · rw [ann2 h3 h2] at b; omega
  · rw [ann0 (by omega)] at a; omega

theorem dv4 {l : List Int} (h : dgood l) (h1 : 240 ≤ lk l 0) : racc l (lk l 0 - 240) 4 = dval l ∧ ((4 : Nat) : Int) = dlen l := by
  have a := h.2.1
  have h2 : lk l 0 ≤ 244 := by
    unfold dlen at a
    by_cases h2 : lk l 0 ≤ 244
    · exact h2
    · rw [ann0 (by omega)] at a; omega
  have hn : dlen l = 4 := ann4 h1 h2
  refine ⟨?_, by rw [hn]; rfl⟩
  unfold dval
  rw [hn]
  simp only [show (4 : Int).toNat = 4 from rfl, acc, racc, lead]
  simp
  omega
theorem dv3 {l : List Int} (h : dgood l) (h1 : 224 ≤ lk l 0) (h2 : lk l 0 < 240) : racc l (lk l 0 - 224) 3 = dval l ∧ ((3 : Nat) : Int) = dlen l := by
  have hn : dlen l = 3 := ann3 h1 h2
  refine ⟨?_, by rw [hn]; rfl⟩
  unfold dval
  rw [hn]
  simp only [show (3 : Int).toNat = 3 from rfl, acc, racc, lead]
  simp
  omega
theorem dv2 {l : List Int} (h : dgood l) (h1 : 192 ≤ lk l 0) (h2 : lk l 0 < 224) : racc l (lk l 0 - 192) 2 = dval l ∧ ((2 : Nat) : Int) = dlen l := by
  have a := h.2.1
  have h3 : 194 ≤ lk l 0 := by
    unfold dlen at a
    by_cases h3 : 194 ≤ lk l 0
    · exact h3
    · rw [ann0 (by omega)] at a; omega
  have hn : dlen l = 2 := ann2 h3 h2
  refine ⟨?_, by rw [hn]; rfl⟩
  unfold dval
  rw [hn]
  simp only [show (2 : Int).toNat = 2 from rfl, acc, racc, lead]
  simp
  omega
theorem dv1 {l : List Int} (h : dgood l) (h2 : lk l 0 < 192) (h0 : 0 ≤ lk l 0) : racc l (lk l 0) 1 = dval l ∧ ((1 : Nat) : Int) = dlen l := by
  have a := h.2.1
  have h3 : lk l 0 < 128 := by
    unfold dlen at a
    by_cases h3 : lk l 0 < 128
    · exact h3
    · rw [ann0 (by omega)] at a; omega
  have hn : dlen l = 1 := ann1 h3
  refine ⟨?_, by rw [hn]; rfl⟩
  unfold dval
  rw [hn]
  simp only [show (1 : Int).toNat = 1 from rfl, acc, racc, lead]
  simp

theorem rg4 (l : List Int) (h0 : 0 < l.length) (h1 : 240 ≤ lk l 0) (h2 : lk l 0 < 256) : rgood l 4 (lk l 0 - 240) ↔ dgood l := by
  match l, h0, h1, h2 with
  | a :: b :: c :: d :: t, _, h1, h2 => exact dg4 a b c d t h1 h2
  | [a, b, c], _, h1, _ => exact ⟨fun h => absurd h.1 (by simp), fun h => absurd h (short4 (by simp) h1)⟩
  | [a, b], _, h1, _ => exact ⟨fun h => absurd h.1 (by simp), fun h => absurd h (short4 (by simp) h1)⟩
  | [a], _, h1, _ => exact ⟨fun h => absurd h.1 (by simp), fun h => absurd h (short4 (by simp) h1)⟩
theorem rg3 (l : List Int) (h0 : 0 < l.length) (h1 : 224 ≤ lk l 0) (h2 : lk l 0 < 240) : rgood l 3 (lk l 0 - 224) ↔ dgood l := by
  match l, h0, h1, h2 with
  | a :: b :: c :: t, _, h1, h2 => exact dg3 a b c t h1 h2
  | [a, b], _, h1, h2 => exact ⟨fun h => absurd h.1 (by simp), fun h => absurd h (short3 (by simp) h1 h2)⟩
  | [a], _, h1, h2 => exact ⟨fun h => absurd h.1 (by simp), fun h => absurd h (short3 (by simp) h1 h2)⟩
theorem rg2 (l : List Int) (h0 : 0 < l.length) (h1 : 192 ≤ lk l 0) (h2 : lk l 0 < 224) : rgood l 2 (lk l 0 - 192) ↔ dgood l := by
  match l, h0, h1, h2 with
  | a :: b :: t, _, h1, h2 => exact dg2 a b t h1 h2
  | [a], _, h1, h2 => exact ⟨fun h => absurd h.1 (by simp), fun h => absurd h (short2 (by simp) h1 h2)⟩
theorem rg1 (l : List Int) (h0 : 0 < l.length) (h1 : 0 ≤ lk l 0) (h2 : lk l 0 < 192) : rgood l 1 (lk l 0) ↔ dgood l := by
  match l, h0, h1, h2 with
  | a :: t, _, h1, h2 => exact dg1 a t h1 h2

/-- Valid. -/
inductive Vd : List Int → Prop
  | nil {l : List Int} : l.length = 0 → Vd l
  | step {l : List Int} : dgood l → Vd (l.drop (dlen l).toNat) → Vd l
theorem vd_step {l : List Int} (h : dgood l) : Vd l ↔ Vd (l.drop (dlen l).toNat) := by
  constructor
  · intro hv
    cases hv with
    | nil h0 => exact absurd h.1 (by omega)
    | step _ hv => exact hv
  · exact Vd.step h
theorem vd_not {l : List Int} (h : ¬ dgood l) (h0 : 0 < l.length) : ¬ Vd l := fun hv => by
  cases hv with
  | nil h1 => omega
  | step hg _ => exact h hg
open Classical in
noncomputable def vdB (l : List Int) : Bool := decide (Vd l)
open Classical in
theorem vdB_true {l : List Int} (h : Vd l) : vdB l = true := decide_eq_true h
open Classical in
theorem vdB_false {l : List Int} (h : ¬ Vd l) : vdB l = false := decide_eq_false h
def strSize : Value → Nat
  | .string s => s.size
  | _ => 0
theorem bs_drop (s : ByteArray) (n : Nat) : bs (s.extract n s.size) = (bs s).drop n := by
  unfold bs
  rw [← List.map_drop]
  congr 1
  simp only [ByteArray.data_extract, Array.toList_extract, List.extract_eq_take_drop]
  rw [List.take_of_length_le (by simp)]

set_option maxHeartbeats 400000 in
theorem valid_any (s : ByteArray) (w : World) (hm : s.size ≤ 1000000) : Calls Try.prog 33 #[.string s] w fun e w' => e = .returned (.bool (vdB (bs s))) ∧ Below w.heap.size w w' := by
  go_enter Try.func33, Try.ntmps33
  go_wp2_with fail
  go_loopw [0] (fun v wr => ∃ t : ByteArray, v = .string t ∧ t.size ≤ s.size ∧ (Vd (bs s) ↔ Vd (bs t)) ∧ Below w.heap.size w wr) (fun v _ => strSize v)
  case atStart => exact ⟨s, rfl, Nat.le_refl _, Iff.rfl, Below.refl _ _⟩
  case round =>
    obtain ⟨t, rfl, hts, hv, hbel⟩ := hrel
    have Hv := hid hv
    clear hv
    by_cases h0 : t.size = 0
    · have he := size_nil h0
      go_wp2_with fail
      go_ret
      exact ⟨by rw [vdB_true (Hv.out.2 (Vd.nil (by rw [bs_length]; exact h0)))]; rfl, hbel⟩
    · have he := size_data (s := t) (by omega)
      go_wp2_with fail
      refine (dec_any t _ (by omega)).mono ?_
      rintro e w1 ⟨hb1, ⟨hg, rfl⟩ | ⟨hg, rfl⟩⟩
      · obtain ⟨n, hn⟩ := Int.eq_ofNat_of_zero_le (by have := hg.2.1; omega : 0 ≤ dlen (bs t))
        have hn1 := hg.2.1
        have hn2 := hg.2.2.1
        rw [bs_length] at hn2
        have hn3 : 1 ≤ n ∧ n ≤ t.size := by omega
        obtain ⟨g1, g2⟩ := hn3
        have Hg := hid hg
        have Hn := hid hn
        rw [hn]
        clear hg hn hn1 hn2
        go_wp2_with fail
        go_roundw
        case rel =>
          refine ⟨t.extract n t.size, rfl, ?_, ?_, hbel.trans (hb1.mono hbel.size)⟩
          · simp [ByteArray.size_extract]; omega
          · rw [Hv.out, vd_step Hg.out, Hn.out, bs_drop]; rfl
        case measure => simp [strSize, ByteArray.size_extract]; omega
      · have h3 : (if (bs t).length = 0 then (3 : Int) else 11) = 11 := by rw [if_neg (by rw [bs_length]; exact h0)]
        rw [h3]
        go_wp2_with fail
        go_ret
        exact ⟨by rw [vdB_false (fun h => vd_not hg (by rw [bs_length]; omega) (Hv.out.1 h))]; rfl, hbel.trans (hb1.mono hbel.size)⟩

end Go.Proofs.Ytefpabicgefciaa
