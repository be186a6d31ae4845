/- Runes: Decode of the reference. -/
import Derived.Test.YtgbmipglahebpaaRunesC
namespace Go.Proofs.Ytgbmipglahebpaa
open Go.RowKit
set_option linter.unusedVariables false

/-- The number after the first k bytes, the first one giving x. -/
def racc (l : List Int) (x : Int) : Nat → Int
  | 0 => 0
  | 1 => x
  | k + 2 => 64 * racc l x (k + 1) + lk l (k + 1) - 128
theorem racc_succ (l : List Int) (x : Int) (k : Nat) (h : 1 ≤ k) : racc l x (k + 1) = 64 * racc l x k + lk l k - 128 := by
  obtain ⟨k, rfl⟩ : ∃ j, k = j + 1 := ⟨k - 1, by omega⟩
  rfl
theorem bs_take (s : ByteArray) (n : Nat) : bs (s.extract 0 n) = (bs s).take n := by
  unfold bs
  rw [← List.map_take]
  congr 1
  simp [ByteArray.data_extract]

theorem eqb_of {a b : ByteArray} (h : bs a = bs b) : (a.toList == b.toList) = true := by rw [bs_inj h]; simp
theorem eqb_not {a b : ByteArray} (h : bs a ≠ bs b) : (a.toList == b.toList) = false := by
  cases hx : (a.toList == b.toList) with
  | false => rfl
  | true =>
    have h1 := eq_of_beq hx
    rw [ByteArray.toList_eq, ByteArray.toList_eq] at h1
    exact absurd (by unfold bs; rw [h1]) h
theorem encL_bd {r : Int} (h : runeB r = true) : ∀ z ∈ encL r, 0 ≤ z ∧ z < 256 := by
  have := runeB_bd h
  unfold encL
  intro z hz
  split at hz
  · simp at hz; omega
  · split at hz
    · simp at hz; rcases hz with rfl | rfl <;> omega
    · split at hz
      · simp at hz; rcases hz with rfl | rfl | rfl <;> omega
      · simp at hz; rcases hz with rfl | rfl | rfl | rfl <;> omega

/-- Is what was decoded what the bytes say? -/
def rgood (l : List Int) (n : Nat) (x : Int) : Prop := n ≤ l.length ∧ contTo l n ∧ runeB (racc l x n) = true ∧ encL (racc l x n) = l.take n
def RDecP (l : List Int) (n : Nat) (x : Int) (w : World) (e : Ending) (w' : World) : Prop :=
  Below w.heap.size w w' ∧ (rgood l n x ∧ e = .returned (.tuple #[.int .i64 (racc l x n), .int .i64 n, .int .i64 0]) ∨ ¬ rgood l n x ∧ e = .returned (.tuple #[.int .i64 0, .int .i64 0, .int .i64 11]))
theorem rdecP_bad {l : List Int} {n : Nat} {x : Int} {w w' : World} (hb : Below w.heap.size w w') (h : ¬ rgood l n x) : RDecP l n x w (.returned (.tuple #[.int .i64 0, .int .i64 0, .int .i64 11])) w' := ⟨hb, .inr ⟨h, rfl⟩⟩

set_option maxHeartbeats 400000 in
theorem rdec4_any (s : ByteArray) (w : World) (hs : 0 < s.size) (hm : s.size ≤ 1000000) (h1 : 240 ≤ lk (bs s) 0) (h2 : lk (bs s) 0 < 256) :
    Calls Try.prog 17 #[.string s] w (RDecP (bs s) 4 (lk (bs s) 0 - 240) w) := by
  have he := size_data hs
  have hb := bs_bd s 0
  have h0 := bs_get s 0 hs
  have hl0 : racc (bs s) (lk (bs s) 0 - 240) 1 = (lk (bs s) 0 - 240) := rfl
  go_enter Try.func17, Try.ntmps17
  go_wp2_with fail
  have H0 := hid h0
  clear h0
  go_loop [5, 7] (fun r i => ∃ k : Nat, 1 ≤ k ∧ k ≤ 4 ∧ i = .int .i64 k ∧ r = .int .i64 (racc (bs s) (lk (bs s) 0 - 240) k) ∧ contTo (bs s) k ∧ (k = 1 ∨ k ≤ s.size) ∧ 0 ≤ racc (bs s) (lk (bs s) 0 - 240) k ∧ racc (bs s) (lk (bs s) 0 - 240) k < (256 * 64 ^ (k - 1) : Nat)) (fun _ i => 4 - (intOf i).toNat)
  case atStart => exact ⟨1, by omega, by omega, rfl, by rw [hl0], fun j h1 h2 => by omega, by omega, by rw [hl0]; omega, by rw [hl0]; simp; omega⟩
  case round =>
    clear hl0 he hb
    obtain ⟨k, hk1, hkn, rfl, rfl, hct, hks, hr0, hr1⟩ := hrel
    have hr2 : racc (bs s) (lk (bs s) 0 - 240) k < 67108864 := by
      have : k - 1 = 0 ∨ k - 1 = 1 ∨ k - 1 = 2 ∨ k - 1 = 3 := by omega
      rcases this with h | h | h | h <;> rw [h] at hr1 <;> simp at hr1 <;> omega
    have Hct := hid hct
    have Hr1 := hid hr1
    clear hct hr1
    by_cases hlt : k < 4
    · have hbk := bs_bd s k
      by_cases hsz : k < s.size
      · have h3 := bs_get s k hsz
        by_cases hc : cont (lk (bs s) k) = true
        · have hcb := cont_bd hc
          have d1 : decide (s.size ≤ k) = false := by simp; omega
          have d2 : decide ((s.size : Int) ≤ (k : Int)) = false := by simp; omega
          go_wp2_with fail
          refine (rcont_any _ _).mono ?_
          rintro e w0 ⟨rfl, rfl⟩
          rw [hc]
          go_wp2_with fail
          go_round
          case rel =>
            have hac : racc (bs s) (lk (bs s) 0 - 240) (k + 1) = 64 * racc (bs s) (lk (bs s) 0 - 240) k + lk (bs s) k - 128 := racc_succ _ _ _ hk1
            refine ⟨k + 1, by omega, by omega, by go_num, by rw [hac], contTo_succ Hct.out hc, by omega, by rw [hac]; omega, ?_⟩
            rw [hac]
            have := Hr1.out
            have e1 : 256 * 64 ^ (k + 1 - 1) = 64 * (256 * 64 ^ (k - 1)) := by
              obtain ⟨j, rfl⟩ : ∃ j, k = j + 1 := ⟨k - 1, by omega⟩
              simp only [Nat.add_sub_cancel]
              rw [Nat.pow_succ]
              omega
            rw [e1]
            have e2 : ((64 * (256 * 64 ^ (k - 1)) : Nat) : Int) = 64 * ((256 * 64 ^ (k - 1) : Nat) : Int) := by rw [Int.natCast_mul]; rfl
            rw [e2]
            generalize ((256 * 64 ^ (k - 1) : Nat) : Int) = z at *
            omega
          case measure => simp [intOf]; omega
        · have hc' : cont (lk (bs s) k) = false := by simpa using hc
          have d1 : decide (s.size ≤ k) = false := by simp; omega
          have d2 : decide ((s.size : Int) ≤ (k : Int)) = false := by simp; omega
          go_wp2_with fail
          refine (rcont_any _ _).mono ?_
          rintro e w0 ⟨rfl, rfl⟩
          rw [hc']
          go_wp2_with fail
          go_ret3
          exact rdecP_bad (Below.refl _ _) (fun h => hc (h.2.1 k hk1 hlt))
      · have d1 : decide (s.size ≤ k) = true := by simp; omega
        have d2 : decide ((s.size : Int) ≤ (k : Int)) = true := by simp; omega
        go_wp2_with fail
        go_ret3
        exact rdecP_bad (Below.refl _ _) (fun h => by have := h.1; rw [bs_length] at this; omega)
    · obtain rfl : k = 4 := by omega
      have hsn : 4 ≤ s.size := by omega
      go_wp2_with fail
      cases hr : runeB (racc (bs s) (lk (bs s) 0 - 240) 4) with
      | false =>
        refine (enc_bad _ _ hr).mono ?_
        rintro e w0 ⟨rfl, rfl⟩
        go_wp2_with fail
        go_ret3
        exact rdecP_bad (Below.refl _ _) (fun h => by have h3 := h.2.2.1; rw [hr] at h3; cases h3)
      | true =>
        refine (enc_any _ _ hr).mono ?_
        rintro e w1 ⟨rfl, hbel⟩
        have Hr := hid hr
        by_cases heq : encL (racc (bs s) (lk (bs s) 0 - 240) 4) = (bs s).take 4
        · have hq : ((ofInts (encL (racc (bs s) (lk (bs s) 0 - 240) 4))).toList == (s.extract 0 4).toList) = true := eqb_of (by rw [bs_ofInts _ (encL_bd hr), bs_take, heq])
          have Hq := hid heq
          clear heq hr
          go_wp2_with fail
          go_ret3
          exact ⟨hbel, .inl ⟨⟨by rw [bs_length]; omega, Hct.out, Hr.out, Hq.out⟩, rfl⟩⟩
        · have hq : ((ofInts (encL (racc (bs s) (lk (bs s) 0 - 240) 4))).toList == (s.extract 0 4).toList) = false := eqb_not (by rw [bs_ofInts _ (encL_bd hr), bs_take]; exact heq)
          clear hr
          go_wp2_with fail
          go_ret3
          exact rdecP_bad hbel (fun h => heq h.2.2.2)
set_option maxHeartbeats 400000 in
theorem rdec3_any (s : ByteArray) (w : World) (hs : 0 < s.size) (hm : s.size ≤ 1000000) (h1 : 224 ≤ lk (bs s) 0) (h2 : lk (bs s) 0 < 240) :
    Calls Try.prog 17 #[.string s] w (RDecP (bs s) 3 (lk (bs s) 0 - 224) w) := by
  have he := size_data hs
  have hb := bs_bd s 0
  have h0 := bs_get s 0 hs
  have hl0 : racc (bs s) (lk (bs s) 0 - 224) 1 = (lk (bs s) 0 - 224) := rfl
  go_enter Try.func17, Try.ntmps17
  go_wp2_with fail
  have H0 := hid h0
  clear h0
  go_loop [5, 7] (fun r i => ∃ k : Nat, 1 ≤ k ∧ k ≤ 3 ∧ i = .int .i64 k ∧ r = .int .i64 (racc (bs s) (lk (bs s) 0 - 224) k) ∧ contTo (bs s) k ∧ (k = 1 ∨ k ≤ s.size) ∧ 0 ≤ racc (bs s) (lk (bs s) 0 - 224) k ∧ racc (bs s) (lk (bs s) 0 - 224) k < (256 * 64 ^ (k - 1) : Nat)) (fun _ i => 3 - (intOf i).toNat)
  case atStart => exact ⟨1, by omega, by omega, rfl, by rw [hl0], fun j h1 h2 => by omega, by omega, by rw [hl0]; omega, by rw [hl0]; simp; omega⟩
  case round =>
    clear hl0 he hb
    obtain ⟨k, hk1, hkn, rfl, rfl, hct, hks, hr0, hr1⟩ := hrel
    have hr2 : racc (bs s) (lk (bs s) 0 - 224) k < 67108864 := by
      have : k - 1 = 0 ∨ k - 1 = 1 ∨ k - 1 = 2 ∨ k - 1 = 3 := by omega
      rcases this with h | h | h | h <;> rw [h] at hr1 <;> simp at hr1 <;> omega
    have Hct := hid hct
    have Hr1 := hid hr1
    clear hct hr1
    by_cases hlt : k < 3
    · have hbk := bs_bd s k
      by_cases hsz : k < s.size
      · have h3 := bs_get s k hsz
        by_cases hc : cont (lk (bs s) k) = true
        · have hcb := cont_bd hc
          have d1 : decide (s.size ≤ k) = false := by simp; omega
          have d2 : decide ((s.size : Int) ≤ (k : Int)) = false := by simp; omega
          go_wp2_with fail
          refine (rcont_any _ _).mono ?_
          rintro e w0 ⟨rfl, rfl⟩
          rw [hc]
          go_wp2_with fail
          go_round
          case rel =>
            have hac : racc (bs s) (lk (bs s) 0 - 224) (k + 1) = 64 * racc (bs s) (lk (bs s) 0 - 224) k + lk (bs s) k - 128 := racc_succ _ _ _ hk1
            refine ⟨k + 1, by omega, by omega, by go_num, by rw [hac], contTo_succ Hct.out hc, by omega, by rw [hac]; omega, ?_⟩
            rw [hac]
            have := Hr1.out
            have e1 : 256 * 64 ^ (k + 1 - 1) = 64 * (256 * 64 ^ (k - 1)) := by
              obtain ⟨j, rfl⟩ : ∃ j, k = j + 1 := ⟨k - 1, by omega⟩
              simp only [Nat.add_sub_cancel]
              rw [Nat.pow_succ]
              omega
            rw [e1]
            have e2 : ((64 * (256 * 64 ^ (k - 1)) : Nat) : Int) = 64 * ((256 * 64 ^ (k - 1) : Nat) : Int) := by rw [Int.natCast_mul]; rfl
            rw [e2]
            generalize ((256 * 64 ^ (k - 1) : Nat) : Int) = z at *
            omega
          case measure => simp [intOf]; omega
        · have hc' : cont (lk (bs s) k) = false := by simpa using hc
          have d1 : decide (s.size ≤ k) = false := by simp; omega
          have d2 : decide ((s.size : Int) ≤ (k : Int)) = false := by simp; omega
          go_wp2_with fail
          refine (rcont_any _ _).mono ?_
          rintro e w0 ⟨rfl, rfl⟩
          rw [hc']
          go_wp2_with fail
          go_ret3
          exact rdecP_bad (Below.refl _ _) (fun h => hc (h.2.1 k hk1 hlt))
      · have d1 : decide (s.size ≤ k) = true := by simp; omega
        have d2 : decide ((s.size : Int) ≤ (k : Int)) = true := by simp; omega
        go_wp2_with fail
        go_ret3
        exact rdecP_bad (Below.refl _ _) (fun h => by have := h.1; rw [bs_length] at this; omega)
    · obtain rfl : k = 3 := by omega
      have hsn : 3 ≤ s.size := by omega
      go_wp2_with fail
      cases hr : runeB (racc (bs s) (lk (bs s) 0 - 224) 3) with
      | false =>
        refine (enc_bad _ _ hr).mono ?_
        rintro e w0 ⟨rfl, rfl⟩
        go_wp2_with fail
        go_ret3
        exact rdecP_bad (Below.refl _ _) (fun h => by have h3 := h.2.2.1; rw [hr] at h3; cases h3)
      | true =>
        refine (enc_any _ _ hr).mono ?_
        rintro e w1 ⟨rfl, hbel⟩
        have Hr := hid hr
        by_cases heq : encL (racc (bs s) (lk (bs s) 0 - 224) 3) = (bs s).take 3
        · have hq : ((ofInts (encL (racc (bs s) (lk (bs s) 0 - 224) 3))).toList == (s.extract 0 3).toList) = true := eqb_of (by rw [bs_ofInts _ (encL_bd hr), bs_take, heq])
          have Hq := hid heq
          clear heq hr
          go_wp2_with fail
          go_ret3
          exact ⟨hbel, .inl ⟨⟨by rw [bs_length]; omega, Hct.out, Hr.out, Hq.out⟩, rfl⟩⟩
        · have hq : ((ofInts (encL (racc (bs s) (lk (bs s) 0 - 224) 3))).toList == (s.extract 0 3).toList) = false := eqb_not (by rw [bs_ofInts _ (encL_bd hr), bs_take]; exact heq)
          clear hr
          go_wp2_with fail
          go_ret3
          exact rdecP_bad hbel (fun h => heq h.2.2.2)
set_option maxHeartbeats 400000 in
theorem rdec2_any (s : ByteArray) (w : World) (hs : 0 < s.size) (hm : s.size ≤ 1000000) (h1 : 192 ≤ lk (bs s) 0) (h2 : lk (bs s) 0 < 224) :
    Calls Try.prog 17 #[.string s] w (RDecP (bs s) 2 (lk (bs s) 0 - 192) w) := by
  have he := size_data hs
  have hb := bs_bd s 0
  have h0 := bs_get s 0 hs
  have hl0 : racc (bs s) (lk (bs s) 0 - 192) 1 = (lk (bs s) 0 - 192) := rfl
  go_enter Try.func17, Try.ntmps17
  go_wp2_with fail
  have H0 := hid h0
  clear h0
  go_loop [5, 7] (fun r i => ∃ k : Nat, 1 ≤ k ∧ k ≤ 2 ∧ i = .int .i64 k ∧ r = .int .i64 (racc (bs s) (lk (bs s) 0 - 192) k) ∧ contTo (bs s) k ∧ (k = 1 ∨ k ≤ s.size) ∧ 0 ≤ racc (bs s) (lk (bs s) 0 - 192) k ∧ racc (bs s) (lk (bs s) 0 - 192) k < (256 * 64 ^ (k - 1) : Nat)) (fun _ i => 2 - (intOf i).toNat)
  case atStart => exact ⟨1, by omega, by omega, rfl, by rw [hl0], fun j h1 h2 => by omega, by omega, by rw [hl0]; omega, by rw [hl0]; simp; omega⟩
  case round =>
    clear hl0 he hb
    obtain ⟨k, hk1, hkn, rfl, rfl, hct, hks, hr0, hr1⟩ := hrel
    have hr2 : racc (bs s) (lk (bs s) 0 - 192) k < 67108864 := by
      have : k - 1 = 0 ∨ k - 1 = 1 ∨ k - 1 = 2 ∨ k - 1 = 3 := by omega
      rcases this with h | h | h | h <;> rw [h] at hr1 <;> simp at hr1 <;> omega
    have Hct := hid hct
    have Hr1 := hid hr1
    clear hct hr1
    by_cases hlt : k < 2
    · have hbk := bs_bd s k
      by_cases hsz : k < s.size
      · have h3 := bs_get s k hsz
        by_cases hc : cont (lk (bs s) k) = true
        · have hcb := cont_bd hc
          have d1 : decide (s.size ≤ k) = false := by simp; omega
          have d2 : decide ((s.size : Int) ≤ (k : Int)) = false := by simp; omega
          go_wp2_with fail
          refine (rcont_any _ _).mono ?_
          rintro e w0 ⟨rfl, rfl⟩
          rw [hc]
          go_wp2_with fail
          go_round
          case rel =>
            have hac : racc (bs s) (lk (bs s) 0 - 192) (k + 1) = 64 * racc (bs s) (lk (bs s) 0 - 192) k + lk (bs s) k - 128 := racc_succ _ _ _ hk1
            refine ⟨k + 1, by omega, by omega, by go_num, by rw [hac], contTo_succ Hct.out hc, by omega, by rw [hac]; omega, ?_⟩
            rw [hac]
            have := Hr1.out
            have e1 : 256 * 64 ^ (k + 1 - 1) = 64 * (256 * 64 ^ (k - 1)) := by
              obtain ⟨j, rfl⟩ : ∃ j, k = j + 1 := ⟨k - 1, by omega⟩
              simp only [Nat.add_sub_cancel]
              rw [Nat.pow_succ]
              omega
            rw [e1]
            have e2 : ((64 * (256 * 64 ^ (k - 1)) : Nat) : Int) = 64 * ((256 * 64 ^ (k - 1) : Nat) : Int) := by rw [Int.natCast_mul]; rfl
            rw [e2]
            generalize ((256 * 64 ^ (k - 1) : Nat) : Int) = z at *
            omega
          case measure => simp [intOf]; omega
        · have hc' : cont (lk (bs s) k) = false := by simpa using hc
          have d1 : decide (s.size ≤ k) = false := by simp; omega
          have d2 : decide ((s.size : Int) ≤ (k : Int)) = false := by simp; omega
          go_wp2_with fail
          refine (rcont_any _ _).mono ?_
          rintro e w0 ⟨rfl, rfl⟩
          rw [hc']
          go_wp2_with fail
          go_ret3
          exact rdecP_bad (Below.refl _ _) (fun h => hc (h.2.1 k hk1 hlt))
      · have d1 : decide (s.size ≤ k) = true := by simp; omega
        have d2 : decide ((s.size : Int) ≤ (k : Int)) = true := by simp; omega
        go_wp2_with fail
        go_ret3
        exact rdecP_bad (Below.refl _ _) (fun h => by have := h.1; rw [bs_length] at this; omega)
    · obtain rfl : k = 2 := by omega
      have hsn : 2 ≤ s.size := by omega
      go_wp2_with fail
      cases hr : runeB (racc (bs s) (lk (bs s) 0 - 192) 2) with
      | false =>
        refine (enc_bad _ _ hr).mono ?_
        rintro e w0 ⟨rfl, rfl⟩
        go_wp2_with fail
        go_ret3
        exact rdecP_bad (Below.refl _ _) (fun h => by have h3 := h.2.2.1; rw [hr] at h3; cases h3)
      | true =>
        refine (enc_any _ _ hr).mono ?_
        rintro e w1 ⟨rfl, hbel⟩
        have Hr := hid hr
        by_cases heq : encL (racc (bs s) (lk (bs s) 0 - 192) 2) = (bs s).take 2
        · have hq : ((ofInts (encL (racc (bs s) (lk (bs s) 0 - 192) 2))).toList == (s.extract 0 2).toList) = true := eqb_of (by rw [bs_ofInts _ (encL_bd hr), bs_take, heq])
          have Hq := hid heq
          clear heq hr
          go_wp2_with fail
          go_ret3
          exact ⟨hbel, .inl ⟨⟨by rw [bs_length]; omega, Hct.out, Hr.out, Hq.out⟩, rfl⟩⟩
        · have hq : ((ofInts (encL (racc (bs s) (lk (bs s) 0 - 192) 2))).toList == (s.extract 0 2).toList) = false := eqb_not (by rw [bs_ofInts _ (encL_bd hr), bs_take]; exact heq)
          clear hr
          go_wp2_with fail
          go_ret3
          exact rdecP_bad hbel (fun h => heq h.2.2.2)
set_option maxHeartbeats 400000 in
theorem rdec1_any (s : ByteArray) (w : World) (hs : 0 < s.size) (hm : s.size ≤ 1000000) (h1 : 0 ≤ lk (bs s) 0) (h2 : lk (bs s) 0 < 192) :
    Calls Try.prog 17 #[.string s] w (RDecP (bs s) 1 (lk (bs s) 0) w) := by
  have he := size_data hs
  have hb := bs_bd s 0
  have h0 := bs_get s 0 hs
  have hl0 : racc (bs s) (lk (bs s) 0) 1 = (lk (bs s) 0) := rfl
  go_enter Try.func17, Try.ntmps17
  go_wp2_with fail
  have H0 := hid h0
  clear h0
  go_loop [5, 7] (fun r i => ∃ k : Nat, 1 ≤ k ∧ k ≤ 1 ∧ i = .int .i64 k ∧ r = .int .i64 (racc (bs s) (lk (bs s) 0) k) ∧ contTo (bs s) k ∧ (k = 1 ∨ k ≤ s.size) ∧ 0 ≤ racc (bs s) (lk (bs s) 0) k ∧ racc (bs s) (lk (bs s) 0) k < (256 * 64 ^ (k - 1) : Nat)) (fun _ i => 1 - (intOf i).toNat)
  case atStart => exact ⟨1, by omega, by omega, rfl, by rw [hl0], fun j h1 h2 => by omega, by omega, by rw [hl0]; omega, by rw [hl0]; simp; omega⟩
  case round =>
    clear hl0 he hb
    obtain ⟨k, hk1, hkn, rfl, rfl, hct, hks, hr0, hr1⟩ := hrel
    have hr2 : racc (bs s) (lk (bs s) 0) k < 67108864 := by
      have : k - 1 = 0 ∨ k - 1 = 1 ∨ k - 1 = 2 ∨ k - 1 = 3 := by omega
      rcases this with h | h | h | h <;> rw [h] at hr1 <;> simp at hr1 <;> omega
    have Hct := hid hct
    have Hr1 := hid hr1
    clear hct hr1
    by_cases hlt : k < 1
    · exact absurd hlt (by omega)
    · obtain rfl : k = 1 := by omega
      have hsn : 1 ≤ s.size := by omega
      go_wp2_with fail
      cases hr : runeB (racc (bs s) (lk (bs s) 0) 1) with
      | false =>
        refine (enc_bad _ _ hr).mono ?_
        rintro e w0 ⟨rfl, rfl⟩
        go_wp2_with fail
        go_ret3
        exact rdecP_bad (Below.refl _ _) (fun h => by have h3 := h.2.2.1; rw [hr] at h3; cases h3)
      | true =>
        refine (enc_any _ _ hr).mono ?_
        rintro e w1 ⟨rfl, hbel⟩
        have Hr := hid hr
        by_cases heq : encL (racc (bs s) (lk (bs s) 0) 1) = (bs s).take 1
        · have hq : ((ofInts (encL (racc (bs s) (lk (bs s) 0) 1))).toList == (s.extract 0 1).toList) = true := eqb_of (by rw [bs_ofInts _ (encL_bd hr), bs_take, heq])
          have Hq := hid heq
          clear heq hr
          go_wp2_with fail
          go_ret3
          exact ⟨hbel, .inl ⟨⟨by rw [bs_length]; omega, Hct.out, Hr.out, Hq.out⟩, rfl⟩⟩
        · have hq : ((ofInts (encL (racc (bs s) (lk (bs s) 0) 1))).toList == (s.extract 0 1).toList) = false := eqb_not (by rw [bs_ofInts _ (encL_bd hr), bs_take]; exact heq)
          clear hr
          go_wp2_with fail
          go_ret3
          exact rdecP_bad hbel (fun h => heq h.2.2.2)
end Go.Proofs.Ytgbmipglahebpaa
