/- Runes: Decode of the program. -/
import Derived.Test.YtefpabicgefciaaRunesA
namespace Go.Proofs.Ytefpabicgefciaa
open Go.RowKit
set_option linter.unusedVariables false

/-- The bytes of a string. -/
def bs (s : ByteArray) : List Int := s.data.toList.map fun c => (c.toNat : Int)
theorem bs_length (s : ByteArray) : (bs s).length = s.size := by simp [bs]
theorem bs_get (s : ByteArray) (k : Nat) (h : k < s.size) : ((s[k].toNat : Nat) : Int) = lk (bs s) k := by
  unfold lk bs
  rw [List.getD_eq_getElem?_getD, List.getElem?_map, List.getElem?_eq_getElem (by simpa using h)]
  rfl
theorem bs_bd (s : ByteArray) (k : Nat) : 0 ≤ lk (bs s) k ∧ lk (bs s) k < 256 := by
  by_cases h : k < s.size
  · rw [← bs_get s k h]
    have := s[k].toNat_lt
    omega
  · unfold lk
    rw [List.getD_eq_getElem?_getD, List.getElem?_eq_none (by rw [bs_length]; omega)]
    decide

/-- What the bits of a first byte give. -/
def lead (b : Int) (n : Int) : Int := if n = 1 then b else if n = 2 then b % 32 else if n = 3 then b % 16 else b % 8
/-- The number after the first k bytes. -/
def acc (l : List Int) (n : Int) : Nat → Int
  | 0 => 0
  | 1 => lead (lk l 0) n
  | k + 2 => 64 * acc l n (k + 1) + (lk l (k + 1) - 128)
def contTo (l : List Int) (k : Nat) : Prop := ∀ j, 1 ≤ j → j < k → cont (lk l j) = true
theorem contTo_succ {l : List Int} {k : Nat} (h : contTo l k) (hc : cont (lk l k) = true) : contTo l (k + 1) := fun j h1 h2 => by
  rcases Nat.lt_or_ge j k with h3 | h3
  · exact h j h1 h3
  · obtain rfl : j = k := by omega
    exact hc
/-- Do the first bytes encode a rune? -/
def good (l : List Int) : Prop := 0 < l.length ∧ 1 ≤ ann (lk l 0) ∧ ann (lk l 0) ≤ l.length ∧ contTo l (ann (lk l 0)).toNat ∧ rlen (acc l (ann (lk l 0)) (ann (lk l 0)).toNat) = ann (lk l 0)
theorem cont_bd {b : Int} (h : cont b = true) : 128 ≤ b ∧ b < 192 := by simpa [cont] using h
theorem ann_cases (b : Int) : ann b = 0 ∨ ann b = 1 ∨ ann b = 2 ∨ ann b = 3 ∨ ann b = 4 := by
  unfold ann
  repeat' split
  all_goals simp
theorem i64_or6 (y x : Int) (hy₀ : 0 ≤ y) (hy : y < 64) (hx₀ : 0 ≤ x) (hx : x % 64 = 0) (hx₁ : x < 4294967296) : bits .or .i64 x y = x + y := by
  have := bits_join .i64 32 (by decide) (fun n h0 h1 => by simp [IntKind.wrap, IntKind.bits, IntKind.signed]; omega) 6 x y hx₀ (by simpa using hx) (by simpa using hx₁) hy₀ (by simpa using hy) (by simp; omega)
  exact this
theorem u8_and63 (x : Int) (h0 : 0 ≤ x) (h1 : x < 256) : bits .and .u8 x 63 = x % 64 := bits_mask .u8 8 (by decide) (fun n h0 h1 => by simp [IntKind.wrap, IntKind.bits, IntKind.signed]; omega) 6 (by decide) x h0 (by simpa using h1)
theorem i64_and31 (x : Int) (h0 : 0 ≤ x) (h1 : x < 256) : bits .and .i64 x 31 = x % 32 := bits_mask .i64 32 (by decide) (fun n h0 h1 => by simp [IntKind.wrap, IntKind.bits, IntKind.signed]; omega) 5 (by decide) x h0 (by simp; omega)
theorem i64_and15 (x : Int) (h0 : 0 ≤ x) (h1 : x < 256) : bits .and .i64 x 15 = x % 16 := bits_mask .i64 32 (by decide) (fun n h0 h1 => by simp [IntKind.wrap, IntKind.bits, IntKind.signed]; omega) 4 (by decide) x h0 (by simp; omega)
theorem i64_and7 (x : Int) (h0 : 0 ≤ x) (h1 : x < 256) : bits .and .i64 x 7 = x % 8 := bits_mask .i64 32 (by decide) (fun n h0 h1 => by simp [IntKind.wrap, IntKind.bits, IntKind.signed]; omega) 3 (by decide) x h0 (by simp; omega)
theorem size_data {s : ByteArray} (h : 0 < s.size) : s.toList.isEmpty = false := by
  rw [ByteArray.toList_eq]
  cases hx : s.data.toList with
  | nil => have : s.data.toList.length = s.size := by simp
           rw [hx] at this; simp at this; omega
  | cons => rfl
open Classical in
/-- What Decode returns, n bytes being announced. -/
def DecP (l : List Int) (n : Nat) (ni : Int) (w : World) (e : Ending) (w' : World) : Prop :=
  w = w' ∧ ((contTo l n ∧ rlen (acc l ni n) = ni) ∧ e = .returned (.tuple #[.int .i64 (acc l ni n), .int .i64 ni, .int .i64 0]) ∨ ¬ (contTo l n ∧ rlen (acc l ni n) = ni) ∧ e = .returned (.tuple #[.int .i64 0, .int .i64 0, .int .i64 11]))
theorem decP_ok {l : List Int} {n : Nat} {ni : Int} {w : World} (h : contTo l n) (h' : rlen (acc l ni n) = ni) : DecP l n ni w (.returned (.tuple #[.int .i64 (acc l ni n), .int .i64 ni, .int .i64 0])) w := ⟨rfl, .inl ⟨⟨h, h'⟩, rfl⟩⟩
theorem decP_bad {l : List Int} {n : Nat} {ni : Int} {w : World} (h : ¬ (contTo l n ∧ rlen (acc l ni n) = ni)) : DecP l n ni w (.returned (.tuple #[.int .i64 0, .int .i64 0, .int .i64 11])) w := ⟨rfl, .inr ⟨h, rfl⟩⟩
theorem acc_succ (l : List Int) (n : Int) (k : Nat) (h : 1 ≤ k) : acc l n (k + 1) = 64 * acc l n k + (lk l k - 128) := by
  obtain ⟨k, rfl⟩ : ∃ j, k = j + 1 := ⟨k - 1, by omega⟩
  rfl

set_option maxHeartbeats 400000 in
theorem dec1_any (s : ByteArray) (w : World) (hs : 1 ≤ s.size) (hm : s.size ≤ 1000000) (ha : ann (lk (bs s) 0) = 1) :
    Calls Try.prog 42 #[.string s] w (DecP (bs s) 1 1 w) := by
  have he := size_data (s := s) (by omega)
  have hb := bs_bd s 0
  have h0 := bs_get s 0 (by omega)
  have HA := hid ha
  clear ha
  have hl0 : acc (bs s) 1 1 = lk (bs s) 0 := by simp [acc, lead]
  go_enter Try.func42, Try.ntmps42
  go_wp2_with fail
  refine (ann_any _ _).mono ?_
  rintro e w0 ⟨rfl, rfl⟩
  rw [HA.out]
  go_wp2_with fail
  have H0 := hid h0
  clear h0 
  go_loop [2, 6] (fun r i => ∃ k : Nat, 1 ≤ k ∧ k ≤ 1 ∧ i = .int .i64 k ∧ r = .int .i64 (acc (bs s) 1 k) ∧ contTo (bs s) k ∧ 0 ≤ acc (bs s) 1 k ∧ acc (bs s) 1 k < (256 * 64 ^ (k - 1) : Nat)) (fun _ i => 1 - (intOf i).toNat)
  case atStart => exact ⟨1, by omega, by omega, rfl, by rw [hl0], fun j h1 h2 => by omega, by rw [hl0]; omega, by rw [hl0]; simp; omega⟩
  case round =>
    clear hl0 he hb
    obtain ⟨k, hk1, hkn, rfl, rfl, hct, hr0, hr1⟩ := hrel
    have hr2 : acc (bs s) 1 k < 67108864 := by
      have : k - 1 = 0 ∨ k - 1 = 1 ∨ k - 1 = 2 ∨ k - 1 = 3 := by omega
      rcases this with h | h | h | h <;> rw [h] at hr1 <;> simp at hr1 <;> omega
    have Hct := hid hct
    have Hr1 := hid hr1
    clear hct hr1
    by_cases hlt : k < 1
    · exact absurd hlt (by omega)
    · obtain rfl : k = 1 := by omega
      go_wp2_with fail
      refine (rlen_any _ _).mono ?_
      rintro e w0 ⟨rfl, rfl⟩
      by_cases hr : rlen (acc (bs s) 1 1) = 1
      · rw [hr]
        go_wp2_with fail
        go_ret3
        exact decP_ok Hct.out hr
      · have hne : (rlen (acc (bs s) 1 1) != 1) = true := by rw [bne_iff_ne]; exact hr
        go_wp2_with fail
        go_ret3
        exact decP_bad (fun h => hr h.2)

set_option maxHeartbeats 400000 in
theorem dec2_any (s : ByteArray) (w : World) (hs : 2 ≤ s.size) (hm : s.size ≤ 1000000) (ha : ann (lk (bs s) 0) = 2) :
    Calls Try.prog 42 #[.string s] w (DecP (bs s) 2 2 w) := by
  have he := size_data (s := s) (by omega)
  have hb := bs_bd s 0
  have h0 := bs_get s 0 (by omega)
  have hand := i64_and31 (lk (bs s) 0) hb.1 hb.2
  have HA := hid ha
  clear ha
  have hl0 : acc (bs s) 2 1 = lk (bs s) 0 % 32 := by simp [acc, lead]
  go_enter Try.func42, Try.ntmps42
  go_wp2_with fail
  refine (ann_any _ _).mono ?_
  rintro e w0 ⟨rfl, rfl⟩
  rw [HA.out]
  go_wp2_with fail
  have H0 := hid h0
  clear h0 hand
  go_loop [2, 6] (fun r i => ∃ k : Nat, 1 ≤ k ∧ k ≤ 2 ∧ i = .int .i64 k ∧ r = .int .i64 (acc (bs s) 2 k) ∧ contTo (bs s) k ∧ 0 ≤ acc (bs s) 2 k ∧ acc (bs s) 2 k < (256 * 64 ^ (k - 1) : Nat)) (fun _ i => 2 - (intOf i).toNat)
  case atStart => exact ⟨1, by omega, by omega, rfl, by rw [hl0], fun j h1 h2 => by omega, by rw [hl0]; omega, by rw [hl0]; simp; omega⟩
  case round =>
    clear hl0 he hb
    obtain ⟨k, hk1, hkn, rfl, rfl, hct, hr0, hr1⟩ := hrel
    have hr2 : acc (bs s) 2 k < 67108864 := by
      have : k - 1 = 0 ∨ k - 1 = 1 ∨ k - 1 = 2 ∨ k - 1 = 3 := by omega
      rcases this with h | h | h | h <;> rw [h] at hr1 <;> simp at hr1 <;> omega
    have Hct := hid hct
    have Hr1 := hid hr1
    clear hct hr1
    by_cases hlt : k < 2
    · have hbk := bs_bd s k
      have h2 := bs_get s k (by omega)
      have hu := u8_and63 (lk (bs s) k) hbk.1 hbk.2
      have ho := i64_or6 (lk (bs s) k % 64) (acc (bs s) 2 k * 64) (by omega) (by omega) (by omega) (by omega) (by omega)
      by_cases hc : cont (lk (bs s) k) = true
      · go_wp2_with fail
        refine (cont_any _ _).mono ?_
        rintro e w0 ⟨rfl, rfl⟩
        rw [hc]
        go_wp2_with fail
        go_round
        case rel =>
          have hcb := cont_bd hc
          have hac : acc (bs s) 2 (k + 1) = acc (bs s) 2 k * 64 + lk (bs s) k % 64 := by rw [acc_succ _ _ _ hk1]; omega
          refine ⟨k + 1, by omega, by omega, by go_num, by rw [hac], contTo_succ Hct.out hc, by rw [hac]; omega, ?_⟩
          rw [hac]
          have := Hr1.out
          have e1 : 256 * 64 ^ (k + 1 - 1) = 64 * (256 * 64 ^ (k - 1)) := by
            obtain ⟨j, rfl⟩ : ∃ j, k = j + 1 := ⟨k - 1, by omega⟩
            simp only [Nat.add_sub_cancel]
            rw [Nat.pow_succ]
            omega
          rw [e1]
          have e2 : ((64 * (256 * 64 ^ (k - 1)) : Nat) : Int) = 64 * ((256 * 64 ^ (k - 1) : Nat) : Int) := by rw [Int.natCast_mul]; rfl
          rw [e2]
          generalize ((256 * 64 ^ (k - 1) : Nat) : Int) = z at *
          omega
        case measure => simp [intOf]; omega
      · have hc' : cont (lk (bs s) k) = false := by simpa using hc
        go_wp2_with fail
        refine (cont_any _ _).mono ?_
        rintro e w0 ⟨rfl, rfl⟩
        rw [hc']
        go_wp2_with fail
        go_ret3
        exact decP_bad (fun h => hc (h.1 k hk1 hlt))
    · obtain rfl : k = 2 := by omega
      go_wp2_with fail
      refine (rlen_any _ _).mono ?_
      rintro e w0 ⟨rfl, rfl⟩
      by_cases hr : rlen (acc (bs s) 2 2) = 2
      · rw [hr]
        go_wp2_with fail
        go_ret3
        exact decP_ok Hct.out hr
      · have hne : (rlen (acc (bs s) 2 2) != 2) = true := by rw [bne_iff_ne]; exact hr
        go_wp2_with fail
        go_ret3
        exact decP_bad (fun h => hr h.2)

set_option maxHeartbeats 400000 in
theorem dec3_any (s : ByteArray) (w : World) (hs : 3 ≤ s.size) (hm : s.size ≤ 1000000) (ha : ann (lk (bs s) 0) = 3) :
    Calls Try.prog 42 #[.string s] w (DecP (bs s) 3 3 w) := by
  have he := size_data (s := s) (by omega)
  have hb := bs_bd s 0
  have h0 := bs_get s 0 (by omega)
  have hand := i64_and15 (lk (bs s) 0) hb.1 hb.2
  have HA := hid ha
  clear ha
  have hl0 : acc (bs s) 3 1 = lk (bs s) 0 % 16 := by simp [acc, lead]
  go_enter Try.func42, Try.ntmps42
  go_wp2_with fail
  refine (ann_any _ _).mono ?_
  rintro e w0 ⟨rfl, rfl⟩
  rw [HA.out]
  go_wp2_with fail
  have H0 := hid h0
  clear h0 hand
  go_loop [2, 6] (fun r i => ∃ k : Nat, 1 ≤ k ∧ k ≤ 3 ∧ i = .int .i64 k ∧ r = .int .i64 (acc (bs s) 3 k) ∧ contTo (bs s) k ∧ 0 ≤ acc (bs s) 3 k ∧ acc (bs s) 3 k < (256 * 64 ^ (k - 1) : Nat)) (fun _ i => 3 - (intOf i).toNat)
  case atStart => exact ⟨1, by omega, by omega, rfl, by rw [hl0], fun j h1 h2 => by omega, by rw [hl0]; omega, by rw [hl0]; simp; omega⟩
  case round =>
    clear hl0 he hb
    obtain ⟨k, hk1, hkn, rfl, rfl, hct, hr0, hr1⟩ := hrel
    have hr2 : acc (bs s) 3 k < 67108864 := by
      have : k - 1 = 0 ∨ k - 1 = 1 ∨ k - 1 = 2 ∨ k - 1 = 3 := by omega
      rcases this with h | h | h | h <;> rw [h] at hr1 <;> simp at hr1 <;> omega
    have Hct := hid hct
    have Hr1 := hid hr1
    clear hct hr1
    by_cases hlt : k < 3
    · have hbk := bs_bd s k
      have h2 := bs_get s k (by omega)
      have hu := u8_and63 (lk (bs s) k) hbk.1 hbk.2
      have ho := i64_or6 (lk (bs s) k % 64) (acc (bs s) 3 k * 64) (by omega) (by omega) (by omega) (by omega) (by omega)
      by_cases hc : cont (lk (bs s) k) = true
      · go_wp2_with fail
        refine (cont_any _ _).mono ?_
        rintro e w0 ⟨rfl, rfl⟩
        rw [hc]
        go_wp2_with fail
        go_round
        case rel =>
          have hcb := cont_bd hc
          have hac : acc (bs s) 3 (k + 1) = acc (bs s) 3 k * 64 + lk (bs s) k % 64 := by rw [acc_succ _ _ _ hk1]; omega
          refine ⟨k + 1, by omega, by omega, by go_num, by rw [hac], contTo_succ Hct.out hc, by rw [hac]; omega, ?_⟩
          rw [hac]
          have := Hr1.out
          have e1 : 256 * 64 ^ (k + 1 - 1) = 64 * (256 * 64 ^ (k - 1)) := by
            obtain ⟨j, rfl⟩ : ∃ j, k = j + 1 := ⟨k - 1, by omega⟩
            simp only [Nat.add_sub_cancel]
            rw [Nat.pow_succ]
            omega
          rw [e1]
          have e2 : ((64 * (256 * 64 ^ (k - 1)) : Nat) : Int) = 64 * ((256 * 64 ^ (k - 1) : Nat) : Int) := by rw [Int.natCast_mul]; rfl
          rw [e2]
          generalize ((256 * 64 ^ (k - 1) : Nat) : Int) = z at *
          omega
        case measure => simp [intOf]; omega
      · have hc' : cont (lk (bs s) k) = false := by simpa using hc
        go_wp2_with fail
        refine (cont_any _ _).mono ?_
        rintro e w0 ⟨rfl, rfl⟩
        rw [hc']
        go_wp2_with fail
        go_ret3
        exact decP_bad (fun h => hc (h.1 k hk1 hlt))
    · obtain rfl : k = 3 := by omega
      go_wp2_with fail
      refine (rlen_any _ _).mono ?_
      rintro e w0 ⟨rfl, rfl⟩
      by_cases hr : rlen (acc (bs s) 3 3) = 3
      · rw [hr]
        go_wp2_with fail
        go_ret3
        exact decP_ok Hct.out hr
      · have hne : (rlen (acc (bs s) 3 3) != 3) = true := by rw [bne_iff_ne]; exact hr
        go_wp2_with fail
        go_ret3
        exact decP_bad (fun h => hr h.2)

set_option maxHeartbeats 400000 in
theorem dec4_any (s : ByteArray) (w : World) (hs : 4 ≤ s.size) (hm : s.size ≤ 1000000) (ha : ann (lk (bs s) 0) = 4) :
    Calls Try.prog 42 #[.string s] w (DecP (bs s) 4 4 w) := by
  have he := size_data (s := s) (by omega)
  have hb := bs_bd s 0
  have h0 := bs_get s 0 (by omega)
  have hand := i64_and7 (lk (bs s) 0) hb.1 hb.2
  have HA := hid ha
  clear ha
  have hl0 : acc (bs s) 4 1 = lk (bs s) 0 % 8 := by simp [acc, lead]
  go_enter Try.func42, Try.ntmps42
  go_wp2_with fail
  refine (ann_any _ _).mono ?_
  rintro e w0 ⟨rfl, rfl⟩
  rw [HA.out]
  go_wp2_with fail
  have H0 := hid h0
  clear h0 hand
  go_loop [2, 6] (fun r i => ∃ k : Nat, 1 ≤ k ∧ k ≤ 4 ∧ i = .int .i64 k ∧ r = .int .i64 (acc (bs s) 4 k) ∧ contTo (bs s) k ∧ 0 ≤ acc (bs s) 4 k ∧ acc (bs s) 4 k < (256 * 64 ^ (k - 1) : Nat)) (fun _ i => 4 - (intOf i).toNat)
  case atStart => exact ⟨1, by omega, by omega, rfl, by rw [hl0], fun j h1 h2 => by omega, by rw [hl0]; omega, by rw [hl0]; simp; omega⟩
  case round =>
    clear hl0 he hb
    obtain ⟨k, hk1, hkn, rfl, rfl, hct, hr0, hr1⟩ := hrel
    have hr2 : acc (bs s) 4 k < 67108864 := by
      have : k - 1 = 0 ∨ k - 1 = 1 ∨ k - 1 = 2 ∨ k - 1 = 3 := by omega
      rcases this with h | h | h | h <;> rw [h] at hr1 <;> simp at hr1 <;> omega
    have Hct := hid hct
    have Hr1 := hid hr1
    clear hct hr1
    by_cases hlt : k < 4
    · have hbk := bs_bd s k
      have h2 := bs_get s k (by omega)
      have hu := u8_and63 (lk (bs s) k) hbk.1 hbk.2
      have ho := i64_or6 (lk (bs s) k % 64) (acc (bs s) 4 k * 64) (by omega) (by omega) (by omega) (by omega) (by omega)
      by_cases hc : cont (lk (bs s) k) = true
      · go_wp2_with fail
        refine (cont_any _ _).mono ?_
        rintro e w0 ⟨rfl, rfl⟩
        rw [hc]
        go_wp2_with fail
        go_round
        case rel =>
          have hcb := cont_bd hc
          have hac : acc (bs s) 4 (k + 1) = acc (bs s) 4 k * 64 + lk (bs s) k % 64 := by rw [acc_succ _ _ _ hk1]; omega
          refine ⟨k + 1, by omega, by omega, by go_num, by rw [hac], contTo_succ Hct.out hc, by rw [hac]; omega, ?_⟩
          rw [hac]
          have := Hr1.out
          have e1 : 256 * 64 ^ (k + 1 - 1) = 64 * (256 * 64 ^ (k - 1)) := by
            obtain ⟨j, rfl⟩ : ∃ j, k = j + 1 := ⟨k - 1, by omega⟩
            simp only [Nat.add_sub_cancel]
            rw [Nat.pow_succ]
            omega
          rw [e1]
          have e2 : ((64 * (256 * 64 ^ (k - 1)) : Nat) : Int) = 64 * ((256 * 64 ^ (k - 1) : Nat) : Int) := by rw [Int.natCast_mul]; rfl
          rw [e2]
          generalize ((256 * 64 ^ (k - 1) : Nat) : Int) = z at *
          omega
        case measure => simp [intOf]; omega
      · have hc' : cont (lk (bs s) k) = false := by simpa using hc
        go_wp2_with fail
        refine (cont_any _ _).mono ?_
        rintro e w0 ⟨rfl, rfl⟩
        rw [hc']
        go_wp2_with fail
        go_ret3
        exact decP_bad (fun h => hc (h.1 k hk1 hlt))
    · obtain rfl : k = 4 := by omega
      go_wp2_with fail
      refine (rlen_any _ _).mono ?_
      rintro e w0 ⟨rfl, rfl⟩
      by_cases hr : rlen (acc (bs s) 4 4) = 4
      · rw [hr]
        go_wp2_with fail
        go_ret3
        exact decP_ok Hct.out hr
      · have hne : (rlen (acc (bs s) 4 4) != 4) = true := by rw [bne_iff_ne]; exact hr
        go_wp2_with fail
        go_ret3
        exact decP_bad (fun h => hr h.2)
end Go.Proofs.Ytefpabicgefciaa
