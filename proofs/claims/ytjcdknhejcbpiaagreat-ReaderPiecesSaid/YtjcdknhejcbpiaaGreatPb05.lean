/- Texts XRunesA, XRunesB, XCellA, XCellB, XCellC, XFrame, XCellD, XCellE, XMapU64 for XPcs, by trim.py. -/
import Derived.Test.YtjcdknhejcbpiaaGreatRows
import Derived.Test.YtjcdknhejcbpiaaGreatPb02
import Derived.BigGuardPart
import Derived.Lib.EndianBits
import Derived.Test.YtjcdknhejcbpiaaGreatPb01
import Derived.ProofKit
import Derived.OpenShut
import Derived.ShutString
import Derived.ChangeOld
import Derived.Below
import Derived.Deep.Slices
import Derived.Deep.Fields
import Derived.ChangeSame
import Derived.Laws.CopyOwn
import Derived.MapKept
namespace Go.Proofs.YtjcdknhejcbpiaaGreat
open Go.RowKit
set_option linter.unusedVariables false
/-- The bytes that a first byte announces. -/
def ann (b : Int) : Int := if 244 < b then 0 else if 240 ≤ b then 4 else if 224 ≤ b then 3 else if 194 ≤ b then 2 else if b < 128 then 1 else 0
/-- Is it a continuation byte? -/
def cont (b : Int) : Bool := decide (128 ≤ b ∧ b < 192)
/-- Is it a rune? -/
def runeB (r : Int) : Bool := decide (0 ≤ r ∧ r ≤ 1114111 ∧ (r < 55296 ∨ 57343 < r))
/-- The bytes of its encoding. -/
def rlen (r : Int) : Int := if runeB r = false then 0 else if r < 128 then 1 else if r < 2048 then 2 else if r < 65536 then 3 else 4
theorem ann_any (b : Int) (w : World) : Calls Tryz.prog 152 #[.int .u8 b] w fun e w' => e = .returned (.int .i64 (ann b)) ∧ w = w' := by
  by_cases h2 : 244 < b
  · have hv : ann b = 0 := by simp [ann, *]
    rw [hv]
    clear hv
    go_enter Tryz.func152, Tryz.ntmps152
    go_wp2_with fail
    go_ret
    exact ⟨rfl, rfl⟩
  · by_cases h4 : 240 ≤ b
    · have hv : ann b = 4 := by simp [ann, *]
      rw [hv]
      clear hv
      go_enter Tryz.func152, Tryz.ntmps152
      go_wp2_with fail
      go_ret
      exact ⟨rfl, rfl⟩
    · by_cases h6 : 224 ≤ b
      · have hv : ann b = 3 := by simp [ann, *]
        rw [hv]
        clear hv
        go_enter Tryz.func152, Tryz.ntmps152
        go_wp2_with fail
        go_ret
        exact ⟨rfl, rfl⟩
      · by_cases h8 : 194 ≤ b
        · have hv : ann b = 2 := by simp [ann, *]
          rw [hv]
          clear hv
          go_enter Tryz.func152, Tryz.ntmps152
          go_wp2_with fail
          go_ret
          exact ⟨rfl, rfl⟩
        · by_cases h10 : b < 128
          · have hv : ann b = 1 := by simp [ann, *]
            rw [hv]
            clear hv
            go_enter Tryz.func152, Tryz.ntmps152
            go_wp2_with fail
            go_ret
            exact ⟨rfl, rfl⟩
          · have hv : ann b = 0 := by simp [ann, *]
            rw [hv]
            clear hv
            go_enter Tryz.func152, Tryz.ntmps152
            go_wp2_with fail
            go_ret
            exact ⟨rfl, rfl⟩
theorem cont_any (b : Int) (w : World) : Calls Tryz.prog 153 #[.int .u8 b] w fun e w' => e = .returned (.bool (cont b)) ∧ w = w' := by
  by_cases h2 : 128 ≤ b
  · by_cases h4 : b ≤ 191
    · have hv : cont b = true := by simp [cont]; omega
      rw [hv]
      clear hv
      go_enter Tryz.func153, Tryz.ntmps153
      go_wp2_with fail
      go_ret
      exact ⟨rfl, rfl⟩
    · have hv : cont b = false := by simp [cont]; omega
      rw [hv]
      clear hv
      go_enter Tryz.func153, Tryz.ntmps153
      go_wp2_with fail
      go_ret
      exact ⟨rfl, rfl⟩
  · have hv : cont b = false := by simp [cont]; omega
    rw [hv]
    clear hv
    go_enter Tryz.func153, Tryz.ntmps153
    go_wp2_with fail
    go_ret
    exact ⟨rfl, rfl⟩
theorem rlen_any (r : Int) (w : World) : Calls Tryz.prog 154 #[.int .i64 r] w fun e w' => e = .returned (.int .i64 (rlen r)) ∧ w = w' := by
  by_cases h2 : r < 0
  · have hv : rlen r = 0 := by (unfold rlen runeB; (first | rw [if_pos (by simp; omega)] | rw [if_neg (by simp; omega)]); repeat (first | rw [if_pos (by omega)] | rw [if_neg (by omega)]))
    rw [hv]
    clear hv
    go_enter Tryz.func154, Tryz.ntmps154
    go_wp2_with fail
    go_ret
    exact ⟨rfl, rfl⟩
  · by_cases h4 : 1114111 < r
    · have hv : rlen r = 0 := by (unfold rlen runeB; (first | rw [if_pos (by simp; omega)] | rw [if_neg (by simp; omega)]); repeat (first | rw [if_pos (by omega)] | rw [if_neg (by omega)]))
      rw [hv]
      clear hv
      go_enter Tryz.func154, Tryz.ntmps154
      go_wp2_with fail
      go_ret
      exact ⟨rfl, rfl⟩
    · by_cases h6 : 55296 ≤ r
      · by_cases h8 : r ≤ 57343
        · have hv : rlen r = 0 := by (unfold rlen runeB; (first | rw [if_pos (by simp; omega)] | rw [if_neg (by simp; omega)]); repeat (first | rw [if_pos (by omega)] | rw [if_neg (by omega)]))
          rw [hv]
          clear hv
          go_enter Tryz.func154, Tryz.ntmps154
          go_wp2_with fail
          go_ret
          exact ⟨rfl, rfl⟩
        · by_cases h10 : r < 65536
          · have hv : rlen r = 3 := by (unfold rlen runeB; (first | rw [if_pos (by simp; omega)] | rw [if_neg (by simp; omega)]); repeat (first | rw [if_pos (by omega)] | rw [if_neg (by omega)]))
            rw [hv]
            clear hv
            go_enter Tryz.func154, Tryz.ntmps154
            go_wp2_with fail
            go_ret
            exact ⟨rfl, rfl⟩
          · have hv : rlen r = 4 := by (unfold rlen runeB; (first | rw [if_pos (by simp; omega)] | rw [if_neg (by simp; omega)]); repeat (first | rw [if_pos (by omega)] | rw [if_neg (by omega)]))
            rw [hv]
            clear hv
            go_enter Tryz.func154, Tryz.ntmps154
            go_wp2_with fail
            go_ret
            exact ⟨rfl, rfl⟩
      · by_cases h8 : r < 128
        · have hv : rlen r = 1 := by (unfold rlen runeB; (first | rw [if_pos (by simp; omega)] | rw [if_neg (by simp; omega)]); repeat (first | rw [if_pos (by omega)] | rw [if_neg (by omega)]))
          rw [hv]
          clear hv
          go_enter Tryz.func154, Tryz.ntmps154
          go_wp2_with fail
          go_ret
          exact ⟨rfl, rfl⟩
        · by_cases h10 : r < 2048
          · have hv : rlen r = 2 := by (unfold rlen runeB; (first | rw [if_pos (by simp; omega)] | rw [if_neg (by simp; omega)]); repeat (first | rw [if_pos (by omega)] | rw [if_neg (by omega)]))
            rw [hv]
            clear hv
            go_enter Tryz.func154, Tryz.ntmps154
            go_wp2_with fail
            go_ret
            exact ⟨rfl, rfl⟩
          · have hv : rlen r = 3 := by (unfold rlen runeB; (first | rw [if_pos (by simp; omega)] | rw [if_neg (by simp; omega)]); repeat (first | rw [if_pos (by omega)] | rw [if_neg (by omega)]))
            rw [hv]
            clear hv
            go_enter Tryz.func154, Tryz.ntmps154
            go_wp2_with fail
            go_ret
            exact ⟨rfl, rfl⟩
end Go.Proofs.YtjcdknhejcbpiaaGreat
namespace Go.Proofs.YtjcdknhejcbpiaaGreat
open Go.RowKit
set_option linter.unusedVariables false
/-- The bytes of a string. -/
def bs (s : ByteArray) : List Int := s.data.toList.map fun c => (c.toNat : Int)
theorem bs_length (s : ByteArray) : (bs s).length = s.size := by simp [bs]
theorem bs_get (s : ByteArray) (k : Nat) (h : k < s.size) : ((s[k].toNat : Nat) : Int) = lk (bs s) k := by
  unfold lk bs
  rw [List.getD_eq_getElem?_getD, List.getElem?_map, List.getElem?_eq_getElem (by simpa using h)]
  rfl
theorem bs_bd (s : ByteArray) (k : Nat) : 0 ≤ lk (bs s) k ∧ lk (bs s) k < 256 := by
  by_cases h : k < s.size
  · rw [← bs_get s k h]
    have := s[k].toNat_lt
    omega
  · unfold lk
    rw [List.getD_eq_getElem?_getD, List.getElem?_eq_none (by rw [bs_length]; omega)]
    decide
/-- What the bits of a first byte give. -/
def lead (b : Int) (n : Int) : Int := if n = 1 then b else if n = 2 then b % 32 else if n = 3 then b % 16 else b % 8
/-- The number after the first k bytes. -/
def acc (l : List Int) (n : Int) : Nat → Int
  | 0 => 0
  | 1 => lead (lk l 0) n
  | k + 2 => 64 * acc l n (k + 1) + (lk l (k + 1) - 128)
def contTo (l : List Int) (k : Nat) : Prop := ∀ j, 1 ≤ j → j < k → cont (lk l j) = true
theorem contTo_succ {l : List Int} {k : Nat} (h : contTo l k) (hc : cont (lk l k) = true) : contTo l (k + 1) := fun j h1 h2 => by
  rcases Nat.lt_or_ge j k with h3 | h3
  · exact h j h1 h3
  · obtain rfl : j = k := by omega
    exact hc
/-- Do the first bytes encode a rune? -/
def good (l : List Int) : Prop := 0 < l.length ∧ 1 ≤ ann (lk l 0) ∧ ann (lk l 0) ≤ l.length ∧ contTo l (ann (lk l 0)).toNat ∧ rlen (acc l (ann (lk l 0)) (ann (lk l 0)).toNat) = ann (lk l 0)
theorem cont_bd {b : Int} (h : cont b = true) : 128 ≤ b ∧ b < 192 := by simpa [cont] using h
theorem ann_cases (b : Int) : ann b = 0 ∨ ann b = 1 ∨ ann b = 2 ∨ ann b = 3 ∨ ann b = 4 := by
  unfold ann
  repeat' split
  all_goals simp
theorem i64_or6 (y x : Int) (hy₀ : 0 ≤ y) (hy : y < 64) (hx₀ : 0 ≤ x) (hx : x % 64 = 0) (hx₁ : x < 4294967296) : bits .or .i64 x y = x + y := by
  have := bits_join .i64 32 (by decide) (fun n h0 h1 => by simp [IntKind.wrap, IntKind.bits, IntKind.signed]; omega) 6 x y hx₀ (by simpa using hx) (by simpa using hx₁) hy₀ (by simpa using hy) (by simp; omega)
  exact this
theorem u8_and63 (x : Int) (h0 : 0 ≤ x) (h1 : x < 256) : bits .and .u8 x 63 = x % 64 := bits_mask .u8 8 (by decide) (fun n h0 h1 => by simp [IntKind.wrap, IntKind.bits, IntKind.signed]; omega) 6 (by decide) x h0 (by simpa using h1)
theorem i64_and31 (x : Int) (h0 : 0 ≤ x) (h1 : x < 256) : bits .and .i64 x 31 = x % 32 := bits_mask .i64 32 (by decide) (fun n h0 h1 => by simp [IntKind.wrap, IntKind.bits, IntKind.signed]; omega) 5 (by decide) x h0 (by simp; omega)
theorem i64_and15 (x : Int) (h0 : 0 ≤ x) (h1 : x < 256) : bits .and .i64 x 15 = x % 16 := bits_mask .i64 32 (by decide) (fun n h0 h1 => by simp [IntKind.wrap, IntKind.bits, IntKind.signed]; omega) 4 (by decide) x h0 (by simp; omega)
theorem i64_and7 (x : Int) (h0 : 0 ≤ x) (h1 : x < 256) : bits .and .i64 x 7 = x % 8 := bits_mask .i64 32 (by decide) (fun n h0 h1 => by simp [IntKind.wrap, IntKind.bits, IntKind.signed]; omega) 3 (by decide) x h0 (by simp; omega)
theorem size_data {s : ByteArray} (h : 0 < s.size) : s.toList.isEmpty = false := by
  rw [ByteArray.toList_eq]
  cases hx : s.data.toList with
  | nil => have : s.data.toList.length = s.size := by simp
           rw [hx] at this; simp at this; omega
  | cons => rfl
open Classical in
/-- What Decode returns, n bytes being announced. -/
def DecP (l : List Int) (n : Nat) (ni : Int) (w : World) (e : Ending) (w' : World) : Prop :=
  w = w' ∧ ((contTo l n ∧ rlen (acc l ni n) = ni) ∧ e = .returned (.tuple #[.int .i64 (acc l ni n), .int .i64 ni, .int .i64 0]) ∨ ¬ (contTo l n ∧ rlen (acc l ni n) = ni) ∧ e = .returned (.tuple #[.int .i64 0, .int .i64 0, .int .i64 11]))
theorem decP_ok {l : List Int} {n : Nat} {ni : Int} {w : World} (h : contTo l n) (h' : rlen (acc l ni n) = ni) : DecP l n ni w (.returned (.tuple #[.int .i64 (acc l ni n), .int .i64 ni, .int .i64 0])) w := ⟨rfl, .inl ⟨⟨h, h'⟩, rfl⟩⟩
theorem decP_bad {l : List Int} {n : Nat} {ni : Int} {w : World} (h : ¬ (contTo l n ∧ rlen (acc l ni n) = ni)) : DecP l n ni w (.returned (.tuple #[.int .i64 0, .int .i64 0, .int .i64 11])) w := ⟨rfl, .inr ⟨h, rfl⟩⟩
theorem acc_succ (l : List Int) (n : Int) (k : Nat) (h : 1 ≤ k) : acc l n (k + 1) = 64 * acc l n k + (lk l k - 128) := by
  obtain ⟨k, rfl⟩ : ∃ j, k = j + 1 := ⟨k - 1, by omega⟩
  rfl
set_option maxHeartbeats 400000 in
theorem dec1_any (s : ByteArray) (w : World) (hs : 1 ≤ s.size) (hm : s.size ≤ 1000000) (ha : ann (lk (bs s) 0) = 1) :
    Calls Tryz.prog 141 #[.string s] w (DecP (bs s) 1 1 w) := by
  have he := size_data (s := s) (by omega)
  have hb := bs_bd s 0
  have h0 := bs_get s 0 (by omega)
  have HA := hid ha
  clear ha
  have hl0 : acc (bs s) 1 1 = lk (bs s) 0 := by simp [acc, lead]
  go_enter Tryz.func141, Tryz.ntmps141
  go_wp2_with fail
  refine (ann_any _ _).mono ?_
  rintro e w0 ⟨rfl, rfl⟩
  rw [HA.out]
  go_wp2_with fail
  have H0 := hid h0
  clear h0 
  go_loop [2, 6] (fun r i => ∃ k : Nat, 1 ≤ k ∧ k ≤ 1 ∧ i = .int .i64 k ∧ r = .int .i64 (acc (bs s) 1 k) ∧ contTo (bs s) k ∧ 0 ≤ acc (bs s) 1 k ∧ acc (bs s) 1 k < (256 * 64 ^ (k - 1) : Nat)) (fun _ i => 1 - (intOf i).toNat)
  case atStart => exact ⟨1, by omega, by omega, rfl, by rw [hl0], fun j h1 h2 => by omega, by rw [hl0]; omega, by rw [hl0]; simp; omega⟩
  case round =>
    clear hl0 he hb
    obtain ⟨k, hk1, hkn, rfl, rfl, hct, hr0, hr1⟩ := hrel
    have hr2 : acc (bs s) 1 k < 67108864 := by
      have : k - 1 = 0 ∨ k - 1 = 1 ∨ k - 1 = 2 ∨ k - 1 = 3 := by omega
      rcases this with h | h | h | h <;> rw [h] at hr1 <;> simp at hr1 <;> omega
    have Hct := hid hct
    have Hr1 := hid hr1
    clear hct hr1
    by_cases hlt : k < 1
    · exact absurd hlt (by omega)
    · obtain rfl : k = 1 := by omega
      go_wp2_with fail
      refine (rlen_any _ _).mono ?_
      rintro e w0 ⟨rfl, rfl⟩
      by_cases hr : rlen (acc (bs s) 1 1) = 1
      · rw [hr]
        go_wp2_with fail
        go_ret3
        exact decP_ok Hct.out hr
      · have hne : (rlen (acc (bs s) 1 1) != 1) = true := by rw [bne_iff_ne]; exact hr
        go_wp2_with fail
        go_ret3
        exact decP_bad (fun h => hr h.2)
set_option maxHeartbeats 400000 in
theorem dec2_any (s : ByteArray) (w : World) (hs : 2 ≤ s.size) (hm : s.size ≤ 1000000) (ha : ann (lk (bs s) 0) = 2) :
    Calls Tryz.prog 141 #[.string s] w (DecP (bs s) 2 2 w) := by
  have he := size_data (s := s) (by omega)
  have hb := bs_bd s 0
  have h0 := bs_get s 0 (by omega)
  have hand := i64_and31 (lk (bs s) 0) hb.1 hb.2
  have HA := hid ha
  clear ha
  have hl0 : acc (bs s) 2 1 = lk (bs s) 0 % 32 := by simp [acc, lead]
  go_enter Tryz.func141, Tryz.ntmps141
  go_wp2_with fail
  refine (ann_any _ _).mono ?_
  rintro e w0 ⟨rfl, rfl⟩
  rw [HA.out]
  go_wp2_with fail
  have H0 := hid h0
  clear h0 hand
  go_loop [2, 6] (fun r i => ∃ k : Nat, 1 ≤ k ∧ k ≤ 2 ∧ i = .int .i64 k ∧ r = .int .i64 (acc (bs s) 2 k) ∧ contTo (bs s) k ∧ 0 ≤ acc (bs s) 2 k ∧ acc (bs s) 2 k < (256 * 64 ^ (k - 1) : Nat)) (fun _ i => 2 - (intOf i).toNat)
  case atStart => exact ⟨1, by omega, by omega, rfl, by rw [hl0], fun j h1 h2 => by omega, by rw [hl0]; omega, by rw [hl0]; simp; omega⟩
  case round =>
    clear hl0 he hb
    obtain ⟨k, hk1, hkn, rfl, rfl, hct, hr0, hr1⟩ := hrel
    have hr2 : acc (bs s) 2 k < 67108864 := by
      have : k - 1 = 0 ∨ k - 1 = 1 ∨ k - 1 = 2 ∨ k - 1 = 3 := by omega
      rcases this with h | h | h | h <;> rw [h] at hr1 <;> simp at hr1 <;> omega
    have Hct := hid hct
    have Hr1 := hid hr1
    clear hct hr1
    by_cases hlt : k < 2
    · have hbk := bs_bd s k
      have h2 := bs_get s k (by omega)
      have hu := u8_and63 (lk (bs s) k) hbk.1 hbk.2
      have ho := i64_or6 (lk (bs s) k % 64) (acc (bs s) 2 k * 64) (by omega) (by omega) (by omega) (by omega) (by omega)
      by_cases hc : cont (lk (bs s) k) = true
      · go_wp2_with fail
        refine (cont_any _ _).mono ?_
        rintro e w0 ⟨rfl, rfl⟩
        rw [hc]
        go_wp2_with fail
        go_round
        case rel =>
          have hcb := cont_bd hc
          have hac : acc (bs s) 2 (k + 1) = acc (bs s) 2 k * 64 + lk (bs s) k % 64 := by rw [acc_succ _ _ _ hk1]; omega
          refine ⟨k + 1, by omega, by omega, by go_num, by rw [hac], contTo_succ Hct.out hc, by rw [hac]; omega, ?_⟩
          rw [hac]
          have := Hr1.out
          have e1 : 256 * 64 ^ (k + 1 - 1) = 64 * (256 * 64 ^ (k - 1)) := by
            obtain ⟨j, rfl⟩ : ∃ j, k = j + 1 := ⟨k - 1, by omega⟩
            simp only [Nat.add_sub_cancel]
            rw [Nat.pow_succ]
            omega
          rw [e1]
          have e2 : ((64 * (256 * 64 ^ (k - 1)) : Nat) : Int) = 64 * ((256 * 64 ^ (k - 1) : Nat) : Int) := by rw [Int.natCast_mul]; rfl
          rw [e2]
          generalize ((256 * 64 ^ (k - 1) : Nat) : Int) = z at *
          omega
        case measure => simp [intOf]; omega
      · have hc' : cont (lk (bs s) k) = false := by simpa using hc
        go_wp2_with fail
        refine (cont_any _ _).mono ?_
        rintro e w0 ⟨rfl, rfl⟩
        rw [hc']
        go_wp2_with fail
        go_ret3
        exact decP_bad (fun h => hc (h.1 k hk1 hlt))
    · obtain rfl : k = 2 := by omega
      go_wp2_with fail
      refine (rlen_any _ _).mono ?_
      rintro e w0 ⟨rfl, rfl⟩
      by_cases hr : rlen (acc (bs s) 2 2) = 2
      · rw [hr]
        go_wp2_with fail
        go_ret3
        exact decP_ok Hct.out hr
      · have hne : (rlen (acc (bs s) 2 2) != 2) = true := by rw [bne_iff_ne]; exact hr
        go_wp2_with fail
        go_ret3
        exact decP_bad (fun h => hr h.2)
set_option maxHeartbeats 400000 in
theorem dec3_any (s : ByteArray) (w : World) (hs : 3 ≤ s.size) (hm : s.size ≤ 1000000) (ha : ann (lk (bs s) 0) = 3) :
    Calls Tryz.prog 141 #[.string s] w (DecP (bs s) 3 3 w) := by
  have he := size_data (s := s) (by omega)
  have hb := bs_bd s 0
  have h0 := bs_get s 0 (by omega)
  have hand := i64_and15 (lk (bs s) 0) hb.1 hb.2
  have HA := hid ha
  clear ha
  have hl0 : acc (bs s) 3 1 = lk (bs s) 0 % 16 := by simp [acc, lead]
  go_enter Tryz.func141, Tryz.ntmps141
  go_wp2_with fail
  refine (ann_any _ _).mono ?_
  rintro e w0 ⟨rfl, rfl⟩
  rw [HA.out]
  go_wp2_with fail
  have H0 := hid h0
  clear h0 hand
  go_loop [2, 6] (fun r i => ∃ k : Nat, 1 ≤ k ∧ k ≤ 3 ∧ i = .int .i64 k ∧ r = .int .i64 (acc (bs s) 3 k) ∧ contTo (bs s) k ∧ 0 ≤ acc (bs s) 3 k ∧ acc (bs s) 3 k < (256 * 64 ^ (k - 1) : Nat)) (fun _ i => 3 - (intOf i).toNat)
  case atStart => exact ⟨1, by omega, by omega, rfl, by rw [hl0], fun j h1 h2 => by omega, by rw [hl0]; omega, by rw [hl0]; simp; omega⟩
  case round =>
    clear hl0 he hb
    obtain ⟨k, hk1, hkn, rfl, rfl, hct, hr0, hr1⟩ := hrel
    have hr2 : acc (bs s) 3 k < 67108864 := by
      have : k - 1 = 0 ∨ k - 1 = 1 ∨ k - 1 = 2 ∨ k - 1 = 3 := by omega
      rcases this with h | h | h | h <;> rw [h] at hr1 <;> simp at hr1 <;> omega
    have Hct := hid hct
    have Hr1 := hid hr1
    clear hct hr1
    by_cases hlt : k < 3
    · have hbk := bs_bd s k
      have h2 := bs_get s k (by omega)
      have hu := u8_and63 (lk (bs s) k) hbk.1 hbk.2
      have ho := i64_or6 (lk (bs s) k % 64) (acc (bs s) 3 k * 64) (by omega) (by omega) (by omega) (by omega) (by omega)
      by_cases hc : cont (lk (bs s) k) = true
      · go_wp2_with fail
        refine (cont_any _ _).mono ?_
        rintro e w0 ⟨rfl, rfl⟩
        rw [hc]
        go_wp2_with fail
        go_round
        case rel =>
          have hcb := cont_bd hc
          have hac : acc (bs s) 3 (k + 1) = acc (bs s) 3 k * 64 + lk (bs s) k % 64 := by rw [acc_succ _ _ _ hk1]; omega
          refine ⟨k + 1, by omega, by omega, by go_num, by rw [hac], contTo_succ Hct.out hc, by rw [hac]; omega, ?_⟩
          rw [hac]
          have := Hr1.out
          have e1 : 256 * 64 ^ (k + 1 - 1) = 64 * (256 * 64 ^ (k - 1)) := by
            obtain ⟨j, rfl⟩ : ∃ j, k = j + 1 := ⟨k - 1, by omega⟩
            simp only [Nat.add_sub_cancel]
            rw [Nat.pow_succ]
            omega
          rw [e1]
          have e2 : ((64 * (256 * 64 ^ (k - 1)) : Nat) : Int) = 64 * ((256 * 64 ^ (k - 1) : Nat) : Int) := by rw [Int.natCast_mul]; rfl
          rw [e2]
          generalize ((256 * 64 ^ (k - 1) : Nat) : Int) = z at *
          omega
        case measure => simp [intOf]; omega
      · have hc' : cont (lk (bs s) k) = false := by simpa using hc
        go_wp2_with fail
        refine (cont_any _ _).mono ?_
        rintro e w0 ⟨rfl, rfl⟩
        rw [hc']
        go_wp2_with fail
        go_ret3
        exact decP_bad (fun h => hc (h.1 k hk1 hlt))
    · obtain rfl : k = 3 := by omega
      go_wp2_with fail
      refine (rlen_any _ _).mono ?_
      rintro e w0 ⟨rfl, rfl⟩
      by_cases hr : rlen (acc (bs s) 3 3) = 3
      · rw [hr]
        go_wp2_with fail
        go_ret3
        exact decP_ok Hct.out hr
      · have hne : (rlen (acc (bs s) 3 3) != 3) = true := by rw [bne_iff_ne]; exact hr
        go_wp2_with fail
        go_ret3
        exact decP_bad (fun h => hr h.2)
set_option maxHeartbeats 400000 in
theorem dec4_any (s : ByteArray) (w : World) (hs : 4 ≤ s.size) (hm : s.size ≤ 1000000) (ha : ann (lk (bs s) 0) = 4) :
    Calls Tryz.prog 141 #[.string s] w (DecP (bs s) 4 4 w) := by
  have he := size_data (s := s) (by omega)
  have hb := bs_bd s 0
  have h0 := bs_get s 0 (by omega)
  have hand := i64_and7 (lk (bs s) 0) hb.1 hb.2
  have HA := hid ha
  clear ha
  have hl0 : acc (bs s) 4 1 = lk (bs s) 0 % 8 := by simp [acc, lead]
  go_enter Tryz.func141, Tryz.ntmps141
  go_wp2_with fail
  refine (ann_any _ _).mono ?_
  rintro e w0 ⟨rfl, rfl⟩
  rw [HA.out]
  go_wp2_with fail
  have H0 := hid h0
  clear h0 hand
  go_loop [2, 6] (fun r i => ∃ k : Nat, 1 ≤ k ∧ k ≤ 4 ∧ i = .int .i64 k ∧ r = .int .i64 (acc (bs s) 4 k) ∧ contTo (bs s) k ∧ 0 ≤ acc (bs s) 4 k ∧ acc (bs s) 4 k < (256 * 64 ^ (k - 1) : Nat)) (fun _ i => 4 - (intOf i).toNat)
  case atStart => exact ⟨1, by omega, by omega, rfl, by rw [hl0], fun j h1 h2 => by omega, by rw [hl0]; omega, by rw [hl0]; simp; omega⟩
  case round =>
    clear hl0 he hb
    obtain ⟨k, hk1, hkn, rfl, rfl, hct, hr0, hr1⟩ := hrel
    have hr2 : acc (bs s) 4 k < 67108864 := by
      have : k - 1 = 0 ∨ k - 1 = 1 ∨ k - 1 = 2 ∨ k - 1 = 3 := by omega
      rcases this with h | h | h | h <;> rw [h] at hr1 <;> simp at hr1 <;> omega
    have Hct := hid hct
    have Hr1 := hid hr1
    clear hct hr1
    by_cases hlt : k < 4
    · have hbk := bs_bd s k
      have h2 := bs_get s k (by omega)
      have hu := u8_and63 (lk (bs s) k) hbk.1 hbk.2
      have ho := i64_or6 (lk (bs s) k % 64) (acc (bs s) 4 k * 64) (by omega) (by omega) (by omega) (by omega) (by omega)
      by_cases hc : cont (lk (bs s) k) = true
      · go_wp2_with fail
        refine (cont_any _ _).mono ?_
        rintro e w0 ⟨rfl, rfl⟩
        rw [hc]
        go_wp2_with fail
        go_round
        case rel =>
          have hcb := cont_bd hc
          have hac : acc (bs s) 4 (k + 1) = acc (bs s) 4 k * 64 + lk (bs s) k % 64 := by rw [acc_succ _ _ _ hk1]; omega
          refine ⟨k + 1, by omega, by omega, by go_num, by rw [hac], contTo_succ Hct.out hc, by rw [hac]; omega, ?_⟩
          rw [hac]
          have := Hr1.out
          have e1 : 256 * 64 ^ (k + 1 - 1) = 64 * (256 * 64 ^ (k - 1)) := by
            obtain ⟨j, rfl⟩ : ∃ j, k = j + 1 := ⟨k - 1, by omega⟩
            simp only [Nat.add_sub_cancel]
            rw [Nat.pow_succ]
            omega
          rw [e1]
          have e2 : ((64 * (256 * 64 ^ (k - 1)) : Nat) : Int) = 64 * ((256 * 64 ^ (k - 1) : Nat) : Int) := by rw [Int.natCast_mul]; rfl
          rw [e2]
          generalize ((256 * 64 ^ (k - 1) : Nat) : Int) = z at *
          omega
        case measure => simp [intOf]; omega
      · have hc' : cont (lk (bs s) k) = false := by simpa using hc
        go_wp2_with fail
        refine (cont_any _ _).mono ?_
        rintro e w0 ⟨rfl, rfl⟩
        rw [hc']
        go_wp2_with fail
        go_ret3
        exact decP_bad (fun h => hc (h.1 k hk1 hlt))
    · obtain rfl : k = 4 := by omega
      go_wp2_with fail
      refine (rlen_any _ _).mono ?_
      rintro e w0 ⟨rfl, rfl⟩
      by_cases hr : rlen (acc (bs s) 4 4) = 4
      · rw [hr]
        go_wp2_with fail
        go_ret3
        exact decP_ok Hct.out hr
      · have hne : (rlen (acc (bs s) 4 4) != 4) = true := by rw [bne_iff_ne]; exact hr
        go_wp2_with fail
        go_ret3
        exact decP_bad (fun h => hr h.2)
end Go.Proofs.YtjcdknhejcbpiaaGreat
namespace Go.Proofs.YtjcdknhejcbpiaaGreat
open Go.RowKit
set_option linter.unusedSimpArgs false
/-- An access. -/
structure Acc where
  t : Int
  c : Int
  k : Int
  o : Int
  n : Int
  s : Bool
def Acc.cells (x : Acc) : List Value := [.int .i64 x.t, .int .i64 x.c, .int .u8 x.k, .int .u64 x.o, .int .u64 x.n, .bool x.s]
def logCells (l : List Acc) : List Value := l.flatMap Acc.cells
def u64s (l : List Int) : Array Value := (l.map (Value.int .u64)).toArray
theorem u64s_getD (l : List Int) (i : Nat) (h : i < l.length) : (u64s l)[i]? = some (.int .u64 (lk l i)) := by simp [u64s, lk, h]
theorem u64s_set (l : List Int) (i : Nat) (v : Int) : (u64s l).setIfInBounds i (.int .u64 v) = u64s (l.set i v) := by
  simp [u64s, List.map_set]
theorem logCells_snoc (l : List Acc) (x : Acc) : logCells (l ++ [x]) = logCells l ++ x.cells := by simp [logCells]
/-- The bank at block p: its values, its log. -/
structure Bank (B : Nat) (w : World) (p cb : Nat) (lv : Value) (vs : List Int) (lg : List Acc) : Prop where
  hp : Blk w p 147 #[.slice (some ⟨cb, 0, none⟩) vs.length vs.length, lv]
  hc : Blk w cb 152 (u64s vs)
  hl : w.ownsRow B 89 6 lv lg.length (logCells lg)
  hv : ∀ x ∈ vs, 0 ≤ x ∧ x < 18446744073709551616
  hn : vs.length ≤ 4096
  bp : B ≤ p
  bc : B ≤ cb
theorem Tryz.infoAcc : (Tryz.prog.info? 89).map (fun i => (i.zero, i.size, i.bytes)) = some (some (.agg #[.int .i64 0, .int .i64 0, .int .u8 0, .int .u64 0, .int .u64 0, .bool false]), 6, 48) := by kernel_rfl
theorem Bank.ch {B : Nat} {w w' : World} {p cb : Nat} {lv : Value} {vs : List Int} {lg : List Acc} {fp : Nat → Prop} (h : Bank B w p cb lv vs lg) (c : Ch fp w w')
    (h1 : ¬ fp p) (h2 : ¬ fp cb) (h3 : ∀ k, lv.ownBlock = some k → ¬ fp k) : Bank B w' p cb lv vs lg :=
  ⟨c.blk h.hp h1, c.blk h.hc h2, c.own h.hl h3, h.hv, h.hn, h.bp, h.bc⟩
/-- The error of an access. -/
def chk (n : Nat) (t c : Int) : Int := if t < 0 ∨ 16 ≤ t then 2 else if c < 0 ∨ (n : Int) ≤ c then 3 else 0
set_option linter.unusedVariables false
set_option maxHeartbeats 400000 in
theorem check_any (p : Nat) (t c : Int) (n cp : Nat) (a : Option Addr) (w : World) (h0 : w.cell? ⟨p, 0, none⟩ = some (.slice a n cp)) :
    Calls Tryz.prog 74 #[.pointer (some ⟨p, 0, none⟩), .int .i64 t, .int .i64 c] w fun e w' => e = .returned (.int .i64 (chk n t c)) ∧ w = w' := by
  unfold chk
  by_cases h1 : t < 0
  · go_enter Tryz.func74, Tryz.ntmps74
    go_wp2
    go_ret
    exact ⟨by simp, rfl⟩
  · have h1' : 0 ≤ t := by omega
    by_cases h2 : t < 16
    · have h2' : ¬ 16 ≤ t := by omega
      by_cases h3 : c < 0
      · go_enter Tryz.func74, Tryz.ntmps74
        go_wp2
        go_ret
        exact ⟨by simp, rfl⟩
      · have h3' : 0 ≤ c := by omega
        by_cases h4 : c < n
        · have h4' : ¬ (n : Int) ≤ c := by omega
          go_enter Tryz.func74, Tryz.ntmps74
          go_wp2
          go_ret
          exact ⟨by simp, rfl⟩
        · have h4' : (n : Int) ≤ c := by omega
          go_enter Tryz.func74, Tryz.ntmps74
          go_wp2
          go_ret
          exact ⟨by simp, rfl⟩
    · have h2' : 16 ≤ t := by omega
      go_enter Tryz.func74, Tryz.ntmps74
      go_wp2
      go_ret
      exact ⟨by simp, rfl⟩
theorem aload_run (w : World) (a : Addr) (x : Int) (h : w.cell? a = some (.int .u64 x)) : Sem.run Tryz.prog (callFunc 87 #[.pointer (some a)]) w = .ok (.value (.int .u64 x)) w :=
  run_call_load Tryz.func87 (by kernel_rfl) (by kernel_rfl) (by kernel_rfl) .u64 (by kernel_rfl) h
set_option maxHeartbeats 400000 in
theorem aload (w : World) (b o : Nat) (x : Int) (h : w.cell? ⟨b, o, none⟩ = some (.int .u64 x)) :
    Calls Tryz.prog 53 #[.pointer (some ⟨b, o, none⟩)] w fun e w' => e = .returned (.int .u64 x) ∧ w = w' := by
  have hr := aload_run w ⟨b, o, none⟩ x h
  go_enter Tryz.func53, Tryz.ntmps53
  go_wp2
  go_ret
  exact ⟨rfl, rfl⟩
set_option maxHeartbeats 400000 in
theorem note_any (B p cb : Nat) (lv : Value) (vs : List Int) (lg : List Acc) (t : Int) (c : Nat) (k o : Int) (s : Bool) (w : World) (h : Bank B w p cb lv vs lg) (hc : c < vs.length) (hlen : lg.length < 1000000) (hB : B ≤ w.heap.size) :
    Calls Tryz.prog 76 #[.pointer (some ⟨p, 0, none⟩), .int .i64 t, .int .i64 c, .int .u8 k, .int .u64 o, .bool s] w fun e w' => e = .returned (.tuple #[]) ∧
      ∃ lv', Bank B w' p cb lv' vs (lg ++ [⟨t, c, k, o, lk vs c, s⟩]) ∧ Ch (fun b => b = p ∨ lv.ownBlock = some b) w w' ∧ (lv'.ownBlock = lv.ownBlock ∨ ∀ b, lv'.ownBlock = some b → w.heap.size ≤ b) := by
  obtain ⟨i0, hi, hz0, hz1, hz2⟩ := info_parts Tryz.infoAcc
  obtain ⟨A, cap, rfl, _⟩ := own_slice h.hl
  have hplt := h.hp.lt
  have h0 := h.hp.cell 0
  have h1 := h.hp.cell 1
  have hcell := (h.hc.cell c).trans (u64s_getD vs c hc)
  simp only [List.getElem?_toArray, List.getElem?_cons_zero, List.getElem?_cons_succ] at h0 h1
  go_enter Tryz.func76, Tryz.ntmps76
  obtain ⟨S, hS⟩ : ∃ S : Nat → Prop, ∀ k, S k ↔ k < w.heap.size := ⟨_, fun _ => Iff.rfl⟩
  have hSp : Mix.Has S p := (hS p).2 h.hp.lt
  have HS := hid hS
  clear hS
  refine Mix.wp_region_mix S (fun i => ([1, 1, 1, 1, 4, 0, 0, 0, 0, 0, 0, 0, 0, 0, 0, 0, 0, 0, 3, 2, 0, 0, 2] : List Nat).getD i 0) [0, 1, 2, 3, 4, 5, 6, 7, 8, 9, 10, 11, 12, 13, 14, 15, 16, 17, 18, 19, 20, 21, 22] (by kernel_rfl) (by kernel_rfl) ?_
  repeat (first | (refine Mix.mix_q (by simp only [List.getElem?_toArray, List.getElem?_cons_zero, List.getElem?_cons_succ]; exact rfl) rfl ?_; go_big_quiet_step ((go_at_call 53; refine Calls.mono (aload _ _ _ _ (by assumption)) ?_; rintro e w' ⟨rfl, rfl⟩; exact ⟨rfl, _, rfl⟩)); refine wpQuiet_nil ?_) | (refine Mix.mix_p (by simp only [List.getElem?_toArray, List.getElem?_cons_zero, List.getElem?_cons_succ]; exact rfl) rfl rfl ?_; go_big_quiet_step (fail); refine wpQuiet_nil ?_) | (refine Mix.mix_s (by simp only [List.getElem?_toArray, List.getElem?_cons_zero, List.getElem?_cons_succ]; exact rfl) rfl rfl ?_; go_big_quiet_step (fail); refine wpQuiet_nil ?_))
  refine Mix.mix_a (by simp only [List.getElem?_toArray, List.getElem?_cons_zero, List.getElem?_cons_succ]; exact rfl) rfl fun W0 hW0 => ?_
  obtain ⟨n1, rfl⟩ := hW0
  go_wp2_with fail
  refine ⟨fun k hk => Below.heap_alloc _ _ k ((HS.out k).1 hk), Mix.mix_world fun W1 hW1 => ?_⟩
  have cW : Ch (fun _ => False) w W1 := by rw [hW1]; exact Ch.push rfl rfl rfl rfl
  have nW : Blk W1 w.heap.size 89 #[.int .i64 t, .int .i64 c, .int .u8 k, .int .u64 o, .int .u64 (lk vs c), .bool s] := by rw [hW1]; exact Blk.push rfl
  clear hW1
  refine Mix.mix_e (by simp only [List.getElem?_toArray, List.getElem?_cons_zero, List.getElem?_cons_succ]; exact rfl) rfl fun W2 hW2 => ?_
  obtain ⟨n2, rfl⟩ := hW2
  refine wpList_app _ rfl _ _ 86 rfl B 89 i0 _ 6 48 Tryz.underlying86 hi hz0 hz1 hz2 rfl (by decide) _ _ _ rfl ((cW.drewN n2).own h.hl (fun _ _ => id)) ⟨w.heap.size, 0, none⟩ 1 1 (Acc.cells ⟨t, c, k, o, lk vs c, s⟩) rfl rfl ?c1 ?c2 (by decide) ?c3 ?c4 ?c5 ?_
  case c1 =>
    intro j u hu
    rw [addr_add0, (nW.drewN n2).cell j]
    simpa [Acc.cells] using hu
  case c2 => intro u hu; simp [Acc.cells] at hu; rcases hu with rfl | rfl | rfl | rfl | rfl | rfl <;> rfl
  case c3 => unfold maxLen; omega
  case c4 => omega
  case c5 => have := cW.size; exact Nat.le_trans hB this
  intro v' w' hown hgrow hfresh
  have c1 : Ch (fun b => (Value.slice A lg.length cap).ownBlock = some b) w w' := ((cW.drewN n2).mono (fun _ _ h => h.elim)).grown hgrow (fun k hk _ => hk)
  have hp' : Blk w' p 147 #[.slice (some ⟨cb, 0, none⟩) vs.length vs.length, .slice A lg.length cap] := c1.blk h.hp (h.hp.own h.hl (by decide))
  have hc' : Blk w' cb 152 (u64s vs) := c1.blk h.hc (h.hc.own h.hl (by decide))
  obtain ⟨g, cap', rfl, _, _, hg1, hg2⟩ := own_form hown (by omega)
  have hrow : (Value.slice (some ⟨g, 0, none⟩) (lg.length + 1) cap').ownBlock = (Value.slice A lg.length cap).ownBlock ∨ w.heap.size ≤ g := by
    rcases hfresh with h | h
    · exact .inl h
    · exact .inr (Nat.le_trans cW.size (h g rfl))
  clear cW nW hgrow
  go_wp2_with fail
  have h1' := hp'.cell 1
  have f1' := hp'.free 1
  simp only [List.getElem?_toArray, List.getElem?_cons_zero, List.getElem?_cons_succ] at h1'
  repeat (refine Mix.mix_q (by simp only [List.getElem?_toArray, List.getElem?_cons_zero, List.getElem?_cons_succ]; exact rfl) rfl ?_; go_big_quiet_step (fail); refine wpQuiet_nil ?_)
  refine Mix.mix_e (by simp only [List.getElem?_toArray, List.getElem?_cons_zero, List.getElem?_cons_succ]; exact rfl) rfl fun W4 hW4 => ?_
  obtain ⟨n4, rfl⟩ := hW4
  go_wp2_with fail
  intro n5
  go_end0
  refine ⟨rfl, .slice (some ⟨g, 0, none⟩) (lg.length + 1) cap', ⟨(hp'.drewN n4).put 1 _, ((hc'.drewN n4).far (hc'.ne hp' (by decide)) _), ?_, h.hv, h.hn, h.bp, h.bc⟩, ?_, ?_⟩
  · rw [logCells_snoc, List.length_append]
    exact (Ch.refl (fun b => b = p) _).setCell (fun _ => rfl) _ |>.own hown (fun k hk e => hp'.own hown (by decide) (by rw [hk, e]))
  · have c2 : Ch (fun b => b = p ∨ (Value.slice A lg.length cap).ownBlock = some b) w w' := c1.mono (fun _ _ h => Or.inr h)
    exact ((c2.drewN n4).set (fun _ => .inl rfl) _).drewN n5
  · rcases hrow with h | h
    · exact .inl h
    · refine .inr fun b hb => ?_
      simp [Value.ownBlock] at hb
      omega
end Go.Proofs.YtjcdknhejcbpiaaGreat
namespace Go.Proofs.YtjcdknhejcbpiaaGreat
open Go.RowKit
set_option linter.unusedSimpArgs false
set_option linter.unusedVariables false
structure BS where
  vs : List Int
  lg : List Acc
def w64 (x : Int) : Int := x % 18446744073709551616
theorem w64_wrap (x : Int) : IntKind.u64.wrap x = w64 x := by simp [IntKind.wrap, w64, IntKind.signed, IntKind.bits]
theorem w64_bd (x : Int) : 0 ≤ w64 x ∧ w64 x < 18446744073709551616 := by unfold w64; omega
def BS.log (s : BS) (x : Acc) : BS := ⟨s.vs, s.lg ++ [x]⟩
def BS.setlog (s : BS) (c : Nat) (v : Int) (x : Acc) : BS := ⟨s.vs.set c v, s.lg ++ [x]⟩
def BS.fine (s : BS) (t c : Int) : Prop := 0 ≤ t ∧ t < 16 ∧ 0 ≤ c ∧ c < s.vs.length
theorem chk_fine {s : BS} {t c : Int} (h : s.fine t c) : chk s.vs.length t c = 0 := by
  obtain ⟨h1, h2, h3, h4⟩ := h
  unfold chk
  rw [if_neg (by omega), if_neg (by omega)]
/-- What a method does to the bank: it reads as s; p, its cells and its log alone have changed. -/
def FP (p cb : Nat) (lv : Value) : Nat → Prop := fun b => b = p ∨ b = cb ∨ lv.ownBlock = some b
def BStep (B : Nat) (w w' : World) (p cb : Nat) (lv : Value) (s : BS) : Prop := ∃ lv', Bank B w' p cb lv' s.vs s.lg ∧ Ch (FP p cb lv) w w' ∧ Fresh w lv lv'
theorem lk_set {vs : List Int} {c : Nat} (v : Int) (h : c < vs.length) : lk (vs.set c v) c = v := by simp [lk, h]
theorem set_bd {vs : List Int} (h : ∀ x ∈ vs, 0 ≤ x ∧ x < 18446744073709551616) (c : Nat) {v : Int} (hv : 0 ≤ v ∧ v < 18446744073709551616) : ∀ x ∈ vs.set c v, 0 ≤ x ∧ x < 18446744073709551616 := by
  intro x hx
  rcases List.mem_or_eq_of_mem_set hx with h1 | h1
  · exact h x h1
  · rw [h1]; exact hv
/-- A cell set. -/
theorem Bank.set {B : Nat} {w : World} {p cb : Nat} {lv : Value} {vs : List Int} {lg : List Acc} (h : Bank B w p cb lv vs lg) (c : Nat) {v : Int} (hv : 0 ≤ v ∧ v < 18446744073709551616) :
    Bank B (w.setCell ⟨cb, c, none⟩ (.int .u64 v)) p cb lv (vs.set c v) lg := by
  refine ⟨?_, ?_, ?_, set_bd h.hv c hv, by rw [List.length_set]; exact h.hn, h.bp, h.bc⟩
  · rw [List.length_set]; exact h.hp.far (h.hp.ne h.hc (by decide)) _
  · rw [← u64s_set]; exact h.hc.put c _
  · exact ((Ch.refl (fun b => b = cb) _).set (fun _ => rfl) _).own h.hl (fun k hk e => h.hc.own h.hl (by decide) (by rw [hk, e]))
theorem astore_run (w : World) (a : Addr) (x y : Int) (h : w.cell? a = some (.int .u64 x)) (hf : w.frozen? a = false) : Sem.run Tryz.prog (callFunc 113 #[.pointer (some a), .int .u64 y]) w = .ok (.value (.tuple #[])) (w.setCell a (.int .u64 y)) :=
  run_call_store Tryz.func113 (by kernel_rfl) (by kernel_rfl) (by kernel_rfl) (by kernel_rfl) h hf
set_option maxHeartbeats 400000 in
theorem astore (w : World) (b o : Nat) (x y : Int) (h : w.cell? ⟨b, o, none⟩ = some (.int .u64 x)) (hf : w.frozen? ⟨b, o, none⟩ = false) :
    Calls Tryz.prog 75 #[.pointer (some ⟨b, o, none⟩), .int .u64 y] w fun e w' => e = .returned (.tuple #[]) ∧ w.setCell ⟨b, o, none⟩ (.int .u64 y) = w' := by
  have hr := astore_run w ⟨b, o, none⟩ x y h hf
  go_enter Tryz.func75, Tryz.ntmps75
  go_wp2
  go_end0
  exact ⟨rfl, rfl⟩
theorem fresh_set {w : World} {p : Addr} {u v v' : Value} (h : Fresh (w.setCell p u) v v') : Fresh w v v' := h.imp id (fun h b hb => by have := h b hb; simpa [World.setCell] using this)
def BS.load (s : BS) (t c : Int) : BS := s.log ⟨t, c, 1, lk s.vs c.toNat, lk s.vs c.toNat, false⟩
set_option maxHeartbeats 400000 in
theorem load_ok (B p cb : Nat) (lv : Value) (s : BS) (t c : Int) (w : World) (h : Bank B w p cb lv s.vs s.lg) (hk : s.fine t c) (hlen : s.lg.length < 1000000) (hB : B ≤ w.heap.size) :
    Calls Tryz.prog 95 #[.pointer (some ⟨p, 0, none⟩), .int .i64 t, .int .i64 c] w fun e w' => e = .returned (.tuple #[.int .u64 (lk s.vs c.toNat), .int .i64 0]) ∧ BStep B w w' p cb lv (s.load t c) := by
  have h0 := h.hp.cell 0
  simp only [List.getElem?_toArray, List.getElem?_cons_zero] at h0
  have hb : (chk s.vs.length t c != 0) = false := by rw [chk_fine hk]; rfl
  have hbb : chk s.vs.length t c = 0 := chk_fine hk
  obtain ⟨_, _, hc0, hc1⟩ := hk
  obtain ⟨c, rfl⟩ := Int.eq_ofNat_of_zero_le hc0
  try simp only [Int.toNat_natCast]
  have hcl : c < s.vs.length := by omega
  have hcell := (h.hc.cell c).trans (u64s_getD s.vs c hcl)
  have Hbb := hid hbb
  clear hbb
  go_enter Tryz.func95, Tryz.ntmps95
  go_wp2_with (first | (go_at_call 74; refine (check_any _ _ _ _ _ _ _ h0).mono ?_; rintro e w' ⟨rfl, rfl⟩) | (go_at_call 53; refine (aload _ _ _ _ hcell).mono ?_; rintro e w' ⟨rfl, rfl⟩))
  go_at_call 76
  refine (note_any B p cb lv s.vs s.lg t c 1 _ false _ h hcl hlen hB).mono ?_
  rintro e w' ⟨rfl, lv', hb', hc', hf'⟩
  go_wp2_with fail
  go_ret2
  exact ⟨rfl, lv', hb', hc'.mono (fun _ _ h => h.elim .inl (fun h => .inr (.inr h))), hf'⟩
def BS.store (s : BS) (t c v : Int) : BS := s.setlog c.toNat v ⟨t, c, 2, lk s.vs c.toNat, v, false⟩
def BS.add (s : BS) (t c v : Int) : BS := s.setlog c.toNat (w64 (lk s.vs c.toNat + v)) ⟨t, c, 3, lk s.vs c.toNat, w64 (lk s.vs c.toNat + v), false⟩
def BS.swap (s : BS) (t c v : Int) : BS := s.setlog c.toNat v ⟨t, c, 4, lk s.vs c.toNat, v, false⟩
def BS.cas (s : BS) (t c o v : Int) : BS := if lk s.vs c.toNat = o then s.setlog c.toNat v ⟨t, c, 5, lk s.vs c.toNat, v, true⟩ else s.log ⟨t, c, 5, lk s.vs c.toNat, lk s.vs c.toNat, false⟩
set_option maxHeartbeats 400000 in
theorem store_ok (B p cb : Nat) (lv : Value) (s : BS) (t c : Int) (v : Int) (w : World) (h : Bank B w p cb lv s.vs s.lg) (hk : s.fine t c) (hlen : s.lg.length < 1000000) (hB : B ≤ w.heap.size) (hv : 0 ≤ v ∧ v < 18446744073709551616) :
    Calls Tryz.prog 42 #[.pointer (some ⟨p, 0, none⟩), .int .i64 t, .int .i64 c, .int .u64 v] w fun e w' => e = .returned (.int .i64 0) ∧ BStep B w w' p cb lv (s.store t c v) := by
  have h0 := h.hp.cell 0
  simp only [List.getElem?_toArray, List.getElem?_cons_zero] at h0
  have hb : (chk s.vs.length t c != 0) = false := by rw [chk_fine hk]; rfl
  obtain ⟨_, _, hc0, hc1⟩ := hk
  obtain ⟨c, rfl⟩ := Int.eq_ofNat_of_zero_le hc0
  try simp only [Int.toNat_natCast]
  have hcl : c < s.vs.length := by omega
  have hcell := (h.hc.cell c).trans (u64s_getD s.vs c hcl)
  have hfree := h.hc.free c
  go_enter Tryz.func42, Tryz.ntmps42
  go_wp2_with (first | (go_at_call 74; refine (check_any _ _ _ _ _ _ _ h0).mono ?_; rintro e w' ⟨rfl, rfl⟩) | (go_at_call 53; refine (aload _ _ _ _ hcell).mono ?_; rintro e w' ⟨rfl, rfl⟩))
  go_at_call 75
  refine (astore _ _ _ _ v hcell hfree).mono ?_
  rintro e w' ⟨rfl, rfl⟩
  go_wp2_with fail
  go_at_call 76
  refine (note_any B p cb lv (s.vs.set c v) s.lg t c 2 _ false _ (h.set c hv) (by rw [List.length_set]; exact hcl) hlen (by simpa [World.setCell] using hB)).mono ?_
  rintro e w' ⟨rfl, lv', hb', hc', hf'⟩
  go_wp2_with fail
  go_ret
  refine ⟨rfl, lv', ?_, ?_, fresh_set hf'⟩
  · simpa only [BS.setlog, lk_set _ hcl, List.length_set, BS.store, Int.toNat_natCast] using hb'
  · exact ((Ch.refl (FP p cb lv) w).set (fun _ => .inr (.inl rfl)) _).trans hc' (fun _ _ h => h.elim .inl (fun h => .inr (.inr h)))
theorem BStep.below {B : Nat} {w w' : World} {p cb : Nat} {lv : Value} {vs : List Int} {lg : List Acc} {s' : BS} (hs : BStep B w w' p cb lv s') (h : Bank B w p cb lv vs lg) (hB : B ≤ w.heap.size) : Below B w w' := by
  obtain ⟨_, _, hc, _⟩ := hs
  refine hc.below hB (fun j hj => ?_)
  rcases hj with rfl | rfl | hj
  · exact h.bp
  · exact h.bc
  · exact (h.hl.lt j hj).1
end Go.Proofs.YtjcdknhejcbpiaaGreat
namespace Go.Proofs.YtjcdknhejcbpiaaGreat
open Go.RowKit
set_option linter.unusedSimpArgs false
set_option linter.unusedVariables false
theorem made_u64 (n : Nat) : madeCells #[.int .u64 0] n = u64s (List.replicate n 0) := by
  unfold madeCells u64s
  apply Array.ext
  · simp
  · intro i h1 h2
    simp only [Array.getElem_map, List.map_replicate, List.getElem_toArray, List.getElem_replicate]
    rw [getElem!_pos #[Value.int .u64 0] _ (by simp [Nat.mod_one])]
    simp [Nat.mod_one]
theorem run_make_u64 {P : Program} (t e : TypeId) (i : TypeInfo) (z : Value) (ht : P.underlying t = some (.slice e)) (hi : (P.info? e).map (fun i => (i.zero, i.size, i.bytes)) = some (some z, 1, 8)) (hz : z.cells = #[.int .u64 0])
    (n : Nat) (hn : n ≤ 1000000) (w : World) : (Instr.makeSlice t (.int .i64 (n : Int)) (.int .i64 (n : Int))).run P w = .ok (.slice (some ⟨w.heap.size, 0, none⟩) n n) (w.alloc (.cells (u64s (List.replicate n 0)) e)) := by
  obtain ⟨i, hi, hz0, hz1, hz2⟩ := info_parts hi
  have hr := run_make (P := P) w t e i z ht hi hz0 .i64 .i64 n n (by omega) (Int.le_refl _) (by rw [hz2]; omega) (by omega)
  simp only [Int.toNat_natCast] at hr
  rw [hr, hz1, Nat.mul_one, hz, made_u64]
theorem Tryz.infoCell : (Tryz.prog.info? 152).map (fun i => (i.zero, i.size, i.bytes)) = some (some (.agg #[.int .u64 0]), 1, 8) := by kernel_rfl
theorem Tryz.infoU64 : (Tryz.prog.info? 54).map (fun i => (i.zero, i.size, i.bytes)) = some (some (.int .u64 0), 1, 8) := by kernel_rfl
def NewBank (B n : Nat) (w : World) (e : Ending) (w' : World) : Prop :=
  ∃ p cb, e = .returned (.tuple #[.pointer (some ⟨p, 0, none⟩), .int .i64 0]) ∧ Bank B w' p cb (.slice none 0 0) (List.replicate n 0) [] ∧ Ch (fun _ => False) w w' ∧ w.heap.size ≤ p ∧ w.heap.size ≤ cb
set_option maxHeartbeats 400000 in
theorem new_ok (B n : Nat) (h1 : 1 ≤ n) (h2 : n ≤ 4096) (w : World) (hB : B ≤ w.heap.size) : Calls Tryz.prog 45 #[.int .i64 n] w (NewBank B n w) := by
  have hmk := run_make_u64 (P := Tryz.prog) 145 152 default _ Tryz.underlying145 Tryz.infoCell rfl n (by omega)
  go_enter Tryz.func45, Tryz.ntmps45
  go_wp2
  go_ret2
  refine ⟨w.heap.size + 1, w.heap.size, rfl, ⟨?_, ?_, World.ownsRow_nil _ _ _ _, ?_, by simpa using h2, by omega, hB⟩, ((Ch.refl _ w).alloc _).alloc _, by omega, Nat.le_refl _⟩
  · rw [List.length_replicate]
    have := Blk.new (w.alloc (.cells (u64s (List.replicate n 0)) 152)) 147 #[.slice (some ⟨w.heap.size, 0, none⟩) n n, .slice none 0 0]
    simpa using this
  · exact (Blk.new w _ _).alloc _
  · intro x hx
    rw [List.eq_of_mem_replicate hx]
    decide
set_option maxHeartbeats 400000 in
theorem len_any (B p cb : Nat) (lv : Value) (s : BS) (w : World) (h : Bank B w p cb lv s.vs s.lg) :
    Calls Tryz.prog 28 #[.pointer (some ⟨p, 0, none⟩)] w fun e w' => e = .returned (.int .i64 s.lg.length) ∧ w = w' := by
  obtain ⟨A, cap, rfl, _⟩ := own_slice h.hl
  have h1 := h.hp.cell 1
  simp only [List.getElem?_toArray, List.getElem?_cons_zero, List.getElem?_cons_succ] at h1
  go_enter Tryz.func28, Tryz.ntmps28
  go_wp2
  go_ret
  exact ⟨rfl, rfl⟩
/-- A slice of words that the call made: a block of its own, full. -/
def Words (B : Nat) (w w' : World) (vs : List Int) (e : Ending) : Prop := ∃ b, e = .returned (.slice (some ⟨b, 0, none⟩) vs.length vs.length) ∧ Blk w' b 54 (u64s vs) ∧ Ch (fun _ => False) w w' ∧ w.heap.size ≤ b
theorem values_fill (vs : List Int) (k : Nat) (h : k < vs.length) : (u64s (vs.take k ++ List.replicate (vs.length - k) 0)).setIfInBounds k (.int .u64 (lk vs k)) = u64s (vs.take (k + 1) ++ List.replicate (vs.length - (k + 1)) 0) := by
  rw [u64s_set]
  congr 1
  apply List.ext_getElem?
  intro i
  rw [List.getElem?_set]
  simp only [List.length_append, List.length_take, List.length_replicate]
  by_cases hi : k = i
  · subst hi
    rw [if_pos rfl, if_pos (by omega), List.getElem?_append_left (by simp; omega), List.getElem?_take, if_pos (by omega), List.getElem?_eq_getElem h]
    simp [lk, h]
  · rw [if_neg hi]
    rcases Nat.lt_or_ge i k with h1 | h1
    · rw [List.getElem?_append_left (by simp; omega), List.getElem?_append_left (by simp; omega), List.getElem?_take, List.getElem?_take, if_pos h1, if_pos (by omega)]
    · rw [List.getElem?_append_right (by simp; omega), List.getElem?_append_right (by simp; omega)]
      simp only [List.length_take, List.getElem?_replicate]
      congr 1
      simp only [eq_iff_iff]
      omega
set_option maxHeartbeats 400000 in
theorem values_any (B p cb : Nat) (lv : Value) (s : BS) (w : World) (h : Bank B w p cb lv s.vs s.lg) :
    Calls Tryz.prog 82 #[.pointer (some ⟨p, 0, none⟩)] w fun e w' => Words B w w' s.vs e := by
  have h0 := h.hp.cell 0
  have hplt := h.hp.lt
  simp only [List.getElem?_toArray, List.getElem?_cons_zero] at h0
  have hn := h.hn
  have hmk := run_make_u64 (P := Tryz.prog) 189 54 default _ Tryz.underlying189 Tryz.infoU64 rfl s.vs.length (by omega)
  go_enter Tryz.func82, Tryz.ntmps82
  go_wp2
  go_loopw [15] (fun i wr => ∃ k : Nat, k ≤ s.vs.length ∧ i = .int .i64 k ∧ Blk wr w.heap.size 54 (u64s (s.vs.take k ++ List.replicate (s.vs.length - k) 0)) ∧ Ch (fun _ => False) w wr) (fun i _ => s.vs.length - (intOf i).toNat)
  case atStart => exact ⟨0, Nat.zero_le _, rfl, by simpa using Blk.new w _ _, (Ch.refl _ w).alloc _⟩
  case round =>
    obtain ⟨k, hk, rfl, hb, hch⟩ := hrel
    have h0' := (hch.cell (p := ⟨p, 0, none⟩) hplt id).trans h0
    by_cases hlt : k < s.vs.length
    · have hcell := ((hch.blk h.hc id).cell k).trans (u64s_getD s.vs k hlt)
      have hold : ∃ u, wr.cell? ⟨w.heap.size, k, none⟩ = some u := by
        rw [hb.cell k]
        refine ⟨_, Array.getElem?_eq_getElem ?_⟩
        simp [u64s]; omega
      obtain ⟨u, hu⟩ := hold
      have hfr := hb.free k
      have Hb := hid hb
      clear hb
      go_wp2_with (go_at_call 53; refine (aload _ _ _ _ hcell).mono ?_; rintro e w' ⟨rfl, rfl⟩)
      go_roundw
      case rel => exact ⟨k + 1, by omega, by go_num, by have := Hb.out.put k (.int .u64 (lk s.vs k)); rw [values_fill _ _ hlt] at this; exact this, hch.set (fun h => absurd h (Nat.lt_irrefl _)) _⟩
      case measure => simp [intOf]; omega
    · have : k = s.vs.length := by omega
      subst this
      go_wp2
      go_ret
      refine ⟨w.heap.size, rfl, by simpa using hb, hch, Nat.le_refl _⟩
end Go.Proofs.YtjcdknhejcbpiaaGreat
namespace Go.Proofs.YtjcdknhejcbpiaaGreat
open Go.RowKit Go.ChangeShapes Go.WideShapes Go.Deep
set_option linter.unusedSimpArgs false
set_option linter.unusedVariables false
/-- A slice of integers that came in. -/
def InInts (k : IntKind) (w : World) (a : Option Addr) (len : Nat) (zs : List Int) : Prop :=
  zs.length = len ∧ (∀ n ∈ zs, (Lit.int k n).wf = true) ∧ (0 < len → ∃ b off, a = some ⟨b, off, none⟩ ∧ b < w.heap.size ∧ ∀ i, i < len → w.cell? ⟨b, off + i, none⟩ = some (.int k (lk zs i)))
section
variable {H : Type} {enc : TypeId × Value → H} {P : Program} {w : World} {base : Nat} {spare : Nat → Bool} {held : Bool}
theorem in_ints {t e : TypeId} {k : IntKind} {a : Option Addr} {len cap : Nat} {d : DataW H} {p : List MemPlace} (ht : P.underlying t = some (.slice e)) (he : P.underlying e = some (.int k)) (hc : P.cellsOf e = 1)
    (h : DataW.Trod enc P w base spare held t (.slice a len cap) d p) : ∃ zs, InInts k w a len zs := by
  obtain ⟨fuel, hf⟩ := h
  rcases open_ints ht he hc hf with ⟨hcs, _⟩ | ⟨x, l, c, zs, hcs, _, hl, hm, hz, _, hcell, hwz⟩
  · simp [Value.cells] at hcs
    obtain ⟨rfl, rfl, rfl⟩ := hcs
    exact ⟨[], rfl, by simp, fun h => absurd h (by omega)⟩
  · simp [Value.cells] at hcs
    obtain ⟨rfl, rfl, rfl⟩ := hcs
    have hlz : len ≤ zs.length := by rw [hz]; split <;> omega
    refine ⟨zs.take len, by simp; omega, fun n hn => hwz n (List.mem_of_mem_take hn), fun h0 => ?_⟩
    have hc0 := hcell 0 (by omega)
    have hs := World.cell?_spot hc0
    obtain ⟨b, off, spot⟩ := x
    have hs' : spot = none := by simpa [Addr.add] using hs
    subst hs'
    refine ⟨b, off, rfl, ?_, fun i hi => ?_⟩
    · have := World.block_lt_of_cell? w _ hc0
      simpa [Addr.add] using this
    · have := hcell i (by omega)
      rw [addr_add] at this
      rw [this]
      simp [lk, List.getD_eq_getElem?_getD, hi]
end
/-- The integers of a kind that fit it. -/
theorem wf_u8 {n : Int} (h : (Lit.int .u8 n).wf = true) : 0 ≤ n ∧ n < 256 := by
  simp [Lit.wf, IntKind.min, IntKind.max, IntKind.signed, IntKind.bits] at h; omega
end Go.Proofs.YtjcdknhejcbpiaaGreat
namespace Go.Proofs.YtjcdknhejcbpiaaGreat
open Go.RowKit
set_option linter.unusedSimpArgs false
set_option linter.unusedVariables false
instance (s : BS) (t c : Int) : Decidable (s.fine t c) := by unfold BS.fine; infer_instance
def BS.doLoad (s : BS) (t c : Int) : BS := if s.fine t c then s.load t c else s
def BS.doStore (s : BS) (t c v : Int) : BS := if s.fine t c then s.store t c v else s
def BS.doAdd (s : BS) (t c v : Int) : BS := if s.fine t c then s.add t c v else s
def BS.doSwap (s : BS) (t c v : Int) : BS := if s.fine t c then s.swap t c v else s
def BS.doCas (s : BS) (t c o v : Int) : BS := if s.fine t c then s.cas t c o v else s
theorem BStep.refl {B : Nat} {w : World} {p cb : Nat} {lv : Value} {s : BS} (h : Bank B w p cb lv s.vs s.lg) : BStep B w w p cb lv s := ⟨lv, h, Ch.refl _ _, .inl rfl⟩
section
variable (B p cb : Nat) (lv : Value) (s : BS) (t c : Int) (w : World) (h : Bank B w p cb lv s.vs s.lg) (hlen : s.lg.length < 1000000) (hB : B ≤ w.heap.size)
include h hlen hB
end
/-- A step of the laws. -/
structure StepD where
  d : Int
  t : Int
  c : Int
  o : Int
  v : Int
def StepD.cells (x : StepD) : List Value := [.int .u8 x.d, .int .i64 x.t, .int .i64 x.c, .int .u64 x.o, .int .u64 x.v]
def StepD.ok (x : StepD) : Prop := (0 ≤ x.d ∧ x.d < 256) ∧ (0 ≤ x.o ∧ x.o < 18446744073709551616) ∧ (0 ≤ x.v ∧ x.v < 18446744073709551616) ∧ (-9223372036854775808 ≤ x.c ∧ x.c < 9223372036854775808)
def BS.step (s : BS) (x : StepD) : BS :=
  if x.d = 0 then s.doLoad x.t x.c else if x.d = 1 then s.doStore x.t x.c x.v else if x.d = 2 then s.doAdd x.t x.c x.v else if x.d = 3 then s.doSwap x.t x.c x.v else s.doCas x.t x.c x.o x.v
end Go.Proofs.YtjcdknhejcbpiaaGreat
namespace Go.Proofs.YtjcdknhejcbpiaaGreat
open Go.RowKit
set_option linter.unusedVariables false
set_option linter.unusedSimpArgs false
theorem run_min {P : Program} (tys : Array TypeId) (t : TypeId) (m n : Nat) (w : World) : (Builtin.min_ tys t #[.int .i64 (m : Int), .int .i64 (n : Int)]).run P w = .ok (.int .i64 ((min m n : Nat) : Int)) w := by
  simp only [Builtin.min_, List.foldlM_cons, List.foldlM_nil, Builtin.min2]
  simp
  split <;> omega
theorem run_slice_low {P : Program} (t e : TypeId) (size : Nat) (ht : P.underlying t = some (.slice e)) (hz : (P.info? e).map (·.size) = some size) (A : Option Addr) (n cap i : Nat) (hi : i ≤ n) (hc : n ≤ cap) (w : World) :
    (Instr.sliceAt t (.slice A n cap) (some (.int .i64 (i : Int))) none none).run P w = .ok (.slice (if cap = i then A else A.map (·.add (i * size))) (n - i) (cap - i)) w := by
  cases hq : P.info? e with
  | none => simp [hq] at hz
  | some inf =>
    have hsz : inf.size = size := by simpa [hq] using hz
    have h1 : (0 : Int) ≤ (i : Int) ∧ (i : Int) ≤ (n : Int) := by omega
    simp only [Instr.sliceAt, Sem.run_bind, run_underlying ht, Result.andThen_ok, Instr.slice, Instr.sliceBounds, Instr.sliceBound, asIntOf, Sem.run_pure, h1, and_self, if_true, Int.toNat_natCast, sizeOf, typeInfo, hq]
    simp [program, Sem.run, hq, hsz]
end Go.Proofs.YtjcdknhejcbpiaaGreat
namespace Go.Proofs.YtjcdknhejcbpiaaGreat
open Go.RowKit
set_option linter.unusedSimpArgs false
set_option linter.unusedVariables false
/-- Block B is a map of these entries. -/
def MapAt (w : World) (B : Nat) (es : List (Int × Value)) : Prop := ∃ bs : List Nat, bs.length = es.length ∧ w.heap[B]? = some (.map ((es.zip bs).map fun x => ({ key := .int .u64 x.1.1, val := x.1.2, born := x.2 } : MapEntry)).toArray es.length)
theorem MapAt.new (w : World) : MapAt (w.alloc (.map #[] 0)) w.heap.size [] := ⟨[], rfl, heap_alloc_new w _⟩
theorem MapAt.ch {fp : Nat → Prop} {w w' : World} {B : Nat} {es : List (Int × Value)} (h : MapAt w B es) (c : Ch fp w w') (hn : ¬ fp B) : MapAt w' B es := by
  obtain ⟨bs, hl, hb⟩ := h
  exact ⟨bs, hl, (c.block B (Array.getElem?_eq_some_iff.1 hb).1 hn).trans hb⟩
/-- What is asked of such a map. -/
def u64At (es : List (Int × Value)) (k : Int) : Option Value := (es.find? fun x => k == x.1).map Prod.snd
theorem findNow_u64 (k : Int) : ∀ (es : List (Int × Value)) (bs : List Nat) (i : Nat), bs.length = es.length →
    ∃ r, Instr.findNow (.int .u64) (.int .u64 k) ((es.zip bs).map fun x => ({ key := .int .u64 x.1.1, val := x.1.2, born := x.2 } : MapEntry)) i = some r ∧ r.map Prod.snd = u64At es k := by
  intro es
  induction es with
  | nil => intro bs i h; exact ⟨none, by simp [Instr.findNow], rfl⟩
  | cons e es ih =>
    intro bs i h
    match bs, h with
    | b :: bs, h =>
      simp at h
      by_cases hk : k = e.1
      · exact ⟨some (i, e.2), by simp [Instr.findNow, Instr.sameNow, hk], by simp [u64At, hk]⟩
      · obtain ⟨r, h1, h2⟩ := ih bs (i + 1) h
        have hk' : (k == e.1) = false := by rw [beq_eq_false_iff_ne]; exact hk
        refine ⟨r, ?_, ?_⟩
        · simp [Instr.findNow, Instr.sameNow, hk']
          exact h1
        · rw [h2]; simp [u64At, List.find?_cons, hk']
section
variable {P : Program} {w : World} {ops : Array Oper} {rest : List Oper} {o : Oper} {a : Act} {Q : Exit → Act → World → Prop}
theorem run_insert_u64 {T kt et : TypeId} (hT : P.underlying T = some (.map kt et)) (hkt : P.underlying kt = some (.int .u64)) {B : Nat} {es : List (Int × Value)} (h : MapAt w B es) (key : Int) (val : Value) (hn : u64At es key = none) :
    ∃ w', (Instr.mapUpdate T (.map (some B)) (.int .u64 key) val).run P w = .ok () w' ∧ MapAt w' B (es ++ [(key, val)]) ∧ Ch (fun b => b = B) w w' := by
  obtain ⟨bs, hl, hb⟩ := h
  obtain ⟨r, h1, h2⟩ := findNow_u64 key es bs 0 hl
  have hr : r = none := by
    cases r with
    | none => rfl
    | some x => rw [hn] at h2; simp at h2
  subst hr
  have hc : (Instr.checkKey false 10000 kt (.int .u64 key)).run P w = .ok () w := MapKept.run_checkKey (k := .int .u64 key) hkt (by simp [MapKept.IsKey]) false 9999
  refine ⟨{ w with heap := w.heap.setIfInBounds B (.map (((es.zip bs).map fun x => ({ key := .int .u64 x.1.1, val := x.1.2, born := x.2 } : MapEntry)).toArray.push { key := .int .u64 key, val, born := es.length }) (es.length + 1)) }, ?_, ?_, ?_⟩
  · simp only [Instr.mapUpdate, Sem.run_bind, run_underlying hT, Result.andThen_ok, MapKept.run_getObj_map hb, hc]
    rw [MapKept.run_findKey hkt h1]
    simp only [Result.andThen_ok]
    exact MapKept.run_setObj_map _ hb
  · refine ⟨bs ++ [es.length], by simp [hl], ?_⟩
    have := (MapKept.heap_set (o' := .map (((es.zip bs).map fun x => ({ key := .int .u64 x.1.1, val := x.1.2, born := x.2 } : MapEntry)).toArray.push { key := .int .u64 key, val, born := es.length }) (es.length + 1)) hb).1
    rw [this]
    simp [List.zip_append hl.symm]
  · refine ⟨rfl, rfl, rfl, by simp, fun k _ hk => (MapKept.heap_set hb).2 k hk⟩
end
end Go.Proofs.YtjcdknhejcbpiaaGreat
