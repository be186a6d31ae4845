/- Runes: Decode of both comes to the same; Valid of both. -/
import Derived.Test.YtefpabicgefciaaRunesD
namespace Go.Proofs.Ytefpabicgefciaa
open Go.RowKit
set_option linter.unusedVariables false
set_option linter.unusedSimpArgs false

def dlen (l : List Int) : Int := ann (lk l 0)
def dval (l : List Int) : Int := acc l (dlen l) (dlen l).toNat
/-- Do the first bytes encode a rune? -/
def dgood (l : List Int) : Prop := 0 < l.length ∧ 1 ≤ dlen l ∧ dlen l ≤ l.length ∧ contTo l (dlen l).toNat ∧ rlen (dval l) = dlen l

theorem contTo1 (l : List Int) : contTo l 1 := fun j h1 h2 => by omega
theorem contTo2 (l : List Int) : contTo l 2 ↔ cont (lk l 1) = true := by
  constructor
  · exact fun h => h 1 (by omega) (by omega)
  · intro h j h1 h2
    obtain rfl : j = 1 := by omega
    exact h
theorem contTo3 (l : List Int) : contTo l 3 ↔ cont (lk l 1) = true ∧ cont (lk l 2) = true := by
  constructor
  · exact fun h => ⟨h 1 (by omega) (by omega), h 2 (by omega) (by omega)⟩
  · intro h j h1 h2
    have : j = 1 ∨ j = 2 := by omega
    rcases this with rfl | rfl
    · exact h.1
    · exact h.2
theorem contTo4 (l : List Int) : contTo l 4 ↔ cont (lk l 1) = true ∧ cont (lk l 2) = true ∧ cont (lk l 3) = true := by
  constructor
  · exact fun h => ⟨h 1 (by omega) (by omega), h 2 (by omega) (by omega), h 3 (by omega) (by omega)⟩
  · intro h j h1 h2
    have : j = 1 ∨ j = 2 ∨ j = 3 := by omega
    rcases this with rfl | rfl | rfl
    · exact h.1
    · exact h.2.1
    · exact h.2.2

theorem lk0 (a : Int) (t : List Int) : lk (a :: t) 0 = a := rfl
theorem lk1 (a b : Int) (t : List Int) : lk (a :: b :: t) 1 = b := rfl
theorem lk2 (a b c : Int) (t : List Int) : lk (a :: b :: c :: t) 2 = c := rfl
theorem lk3 (a b c d : Int) (t : List Int) : lk (a :: b :: c :: d :: t) 3 = d := rfl
theorem cont_iff (b : Int) : cont b = true ↔ 128 ≤ b ∧ b < 192 := by simp [cont]
theorem runeB_iff (r : Int) : runeB r = true ↔ 0 ≤ r ∧ r ≤ 1114111 ∧ (r < 55296 ∨ 57343 < r) := by simp [runeB]
theorem rlen_of {r : Int} (h : runeB r = true) : rlen r = if r < 128 then 1 else if r < 2048 then 2 else if r < 65536 then 3 else 4 := by unfold rlen; rw [if_neg (by simp [h])]
theorem rlen_no {r : Int} (h : runeB r = false) : rlen r = 0 := by unfold rlen; rw [if_pos h]

theorem ann4 {b : Int} (h1 : 240 ≤ b) (h2 : b ≤ 244) : ann b = 4 := by unfold ann; rw [if_neg (by omega), if_pos (by omega)]
theorem ann3 {b : Int} (h1 : 224 ≤ b) (h2 : b < 240) : ann b = 3 := by unfold ann; rw [if_neg (by omega), if_neg (by omega), if_pos (by omega)]
theorem ann2 {b : Int} (h1 : 194 ≤ b) (h2 : b < 224) : ann b = 2 := by unfold ann; rw [if_neg (by omega), if_neg (by omega), if_neg (by omega), if_pos (by omega)]
theorem ann1 {b : Int} (h2 : b < 128) : ann b = 1 := by unfold ann; rw [if_neg (by omega), if_neg (by omega), if_neg (by omega), if_neg (by omega), if_pos (by omega)]
theorem ann0 {b : Int} (h : 244 < b ∨ (128 ≤ b ∧ b < 194)) : ann b = 0 := by
  unfold ann
  by_cases h1 : 244 < b
  · rw [if_pos h1]
  · rw [if_neg h1, if_neg (by omega), if_neg (by omega), if_neg (by omega), if_neg (by omega)]

theorem dg4 (a b c d : Int) (t : List Int) (h1 : 240 ≤ a) (h2 : a < 256) : rgood (a :: b :: c :: d :: t) 4 (a - 240) ↔ dgood (a :: b :: c :: d :: t) := by
  unfold rgood
  rw [contTo4, lk1, lk2, lk3]
  simp only [racc, Nat.zero_add, Nat.reduceAdd, lk0, lk1, lk2, lk3, List.length_cons]
  by_cases ha : a ≤ 244
  · have hn : dlen (a :: b :: c :: d :: t) = 4 := by rw [dlen, lk0, ann4 h1 ha]
    have hv : dval (a :: b :: c :: d :: t) = 64 * (64 * (64 * (a - 240) + (b - 128)) + (c - 128)) + (d - 128) := by
      unfold dval
      rw [hn]
      simp only [show (4 : Int).toNat = 4 from rfl, acc, Nat.zero_add, Nat.reduceAdd, lk0, lk1, lk2, lk3, lead]
      simp
      omega
    unfold dgood
    rw [hn, hv, show (4 : Int).toNat = 4 from rfl, contTo4, lk1, lk2, lk3, List.length_cons]
    have e : 64 * (64 * (64 * (a - 240) + b - 128) + c - 128) + d - 128 = 64 * (64 * (64 * (a - 240) + (b - 128)) + (c - 128)) + (d - 128) := by omega
    rw [e]
    generalize hr : 64 * (64 * (64 * (a - 240) + (b - 128)) + (c - 128)) + (d - 128) = r
    simp only [cont_iff]
    constructor
    · rintro ⟨_, hc, hrb, he⟩
      refine ⟨by omega, by omega, by simp only [List.length_cons]; omega, hc, ?_⟩
      rw [rlen_of hrb]
      have := runeB_bd hrb
      unfold encL at he
      repeat' split at he
      all_goals simp at he
      rw [if_neg (by omega), if_neg (by omega), if_neg (by omega)]
    · rintro ⟨_, _, _, hc, hl⟩
      have hrb : runeB r = true := by
        cases hx : runeB r with
        | true => rfl
        | false => rw [rlen_no hx] at hl; omega
      have hbd := runeB_bd hrb
      refine ⟨by omega, hc, hrb, ?_⟩
      rw [rlen_of hrb] at hl
      unfold encL
      repeat' split at hl
      all_goals first | omega | skip
      rw [if_neg (by omega), if_neg (by omega), if_neg (by omega)]
      simp
      omega
  · have hn : dlen (a :: b :: c :: d :: t) = 0 := by rw [dlen, lk0, ann0 (by omega)]
    constructor
    · rintro ⟨_, hc, hrb, he⟩
      rw [runeB_iff] at hrb
      simp only [cont_iff] at hc
      omega
    · rintro ⟨_, h, _⟩
      rw [hn] at h
      omega

theorem dg3 (a b c : Int) (t : List Int) (h1 : 224 ≤ a) (h2 : a < 240) : rgood (a :: b :: c :: t) 3 (a - 224) ↔ dgood (a :: b :: c :: t) := by
  unfold rgood
  rw [contTo3, lk1, lk2]
  simp only [racc, Nat.zero_add, Nat.reduceAdd, lk0, lk1, lk2, List.length_cons]
  have hn : dlen (a :: b :: c :: t) = 3 := by rw [dlen, lk0, ann3 h1 h2]
  have hv : dval (a :: b :: c :: t) = 64 * (64 * (a - 224) + (b - 128)) + (c - 128) := by
    unfold dval
    rw [hn]
    simp only [show (3 : Int).toNat = 3 from rfl, acc, Nat.zero_add, Nat.reduceAdd, lk0, lk1, lk2, lead]
    simp
    omega
  unfold dgood
  rw [hn, hv, show (3 : Int).toNat = 3 from rfl, contTo3, lk1, lk2, List.length_cons]
  have e : 64 * (64 * (a - 224) + b - 128) + c - 128 = 64 * (64 * (a - 224) + (b - 128)) + (c - 128) := by omega
  rw [e]
  generalize hr : 64 * (64 * (a - 224) + (b - 128)) + (c - 128) = r
  simp only [cont_iff]
  constructor
  · rintro ⟨_, hc, hrb, he⟩
    refine ⟨by omega, by omega, by simp only [List.length_cons]; omega, hc, ?_⟩
    rw [rlen_of hrb]
    have := runeB_bd hrb
    unfold encL at he
    repeat' split at he
    all_goals simp at he
    rw [if_neg (by omega), if_neg (by omega), if_pos (by omega)]
  · rintro ⟨_, _, _, hc, hl⟩
    have hrb : runeB r = true := by
      cases hx : runeB r with
      | true => rfl
      | false => rw [rlen_no hx] at hl; omega
    have hbd := runeB_bd hrb
    refine ⟨by omega, hc, hrb, ?_⟩
    rw [rlen_of hrb] at hl
    unfold encL
    repeat' split at hl
    all_goals first | omega | skip
    rw [if_neg (by omega), if_neg (by omega), if_pos (by omega)]
    simp
    omega

theorem dg2 (a b : Int) (t : List Int) (h1 : 192 ≤ a) (h2 : a < 224) : rgood (a :: b :: t) 2 (a - 192) ↔ dgood (a :: b :: t) := by
  unfold rgood
  rw [contTo2, lk1]
  simp only [racc, Nat.zero_add, Nat.reduceAdd, lk0, lk1, List.length_cons]
  by_cases ha : 194 ≤ a
  · have hn : dlen (a :: b :: t) = 2 := by rw [dlen, lk0, ann2 ha h2]
    have hv : dval (a :: b :: t) = 64 * (a - 192) + (b - 128) := by
      unfold dval
      rw [hn]
      simp only [show (2 : Int).toNat = 2 from rfl, acc, Nat.zero_add, Nat.reduceAdd, lk0, lk1, lead]
      simp
      omega
    unfold dgood
    rw [hn, hv, show (2 : Int).toNat = 2 from rfl, contTo2, lk1, List.length_cons]
    have e : 64 * (a - 192) + b - 128 = 64 * (a - 192) + (b - 128) := by omega
    rw [e]
    generalize hr : 64 * (a - 192) + (b - 128) = r
    simp only [cont_iff]
    constructor
    · rintro ⟨_, hc, hrb, he⟩
      refine ⟨by omega, by omega, by simp only [List.length_cons]; omega, hc, ?_⟩
      rw [rlen_of hrb]
      have := runeB_bd hrb
      rw [if_neg (by omega), if_pos (by omega)]
    · rintro ⟨_, _, _, hc, hl⟩
      have hrb : runeB r = true := by
        cases hx : runeB r with
        | true => rfl
        | false => rw [rlen_no hx] at hl; omega
      have hbd := runeB_bd hrb
      refine ⟨by omega, hc, hrb, ?_⟩
      unfold encL
      rw [if_neg (by omega), if_pos (by omega)]
      simp
      omega
  · have hn : dlen (a :: b :: t) = 0 := by rw [dlen, lk0, ann0 (by omega)]
    constructor
    · rintro ⟨_, hc, hrb, he⟩
      simp only [cont_iff] at hc
      have hbd := runeB_bd hrb
      unfold encL at he
      repeat' split at he
      all_goals simp at he
      all_goals omega
    · rintro ⟨_, h, _⟩
      rw [hn] at h
      omega

theorem dg1 (a : Int) (t : List Int) (h1 : 0 ≤ a) (h2 : a < 192) : rgood (a :: t) 1 a ↔ dgood (a :: t) := by
  unfold rgood
  simp only [racc, Nat.zero_add, Nat.reduceAdd, List.length_cons]
  by_cases ha : a < 128
  · have hn : dlen (a :: t) = 1 := by rw [dlen, lk0, ann1 ha]
    have hv : dval (a :: t) = a := by
      unfold dval
      rw [hn]
      simp [acc, lk0, lead]
    unfold dgood
    rw [hn, hv, show (1 : Int).toNat = 1 from rfl, List.length_cons]
    have hrb : runeB a = true := by rw [runeB_iff]; omega
    constructor
    · rintro _
      refine ⟨by omega, by omega, by omega, contTo1 _, ?_⟩
      rw [rlen_of hrb, if_pos ha]
    · rintro _
      refine ⟨by omega, contTo1 _, hrb, ?_⟩
      unfold encL
      rw [if_pos ha]
      simp
  · have hn : dlen (a :: t) = 0 := by rw [dlen, lk0, ann0 (by omega)]
    constructor
    · rintro ⟨_, hc, hrb, he⟩
      unfold encL at he
      rw [if_neg ha, if_pos (by omega)] at he
      simp at he
    · rintro ⟨_, h, _⟩
      rw [hn] at h
      omega
end Go.Proofs.Ytefpabicgefciaa
