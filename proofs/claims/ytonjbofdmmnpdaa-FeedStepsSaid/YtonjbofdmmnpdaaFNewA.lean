/- feed.New and the reference's. -/
import Derived.Test.YtonjbofdmmnpdaaFeedE
import Derived.Test.YtonjbofdmmnpdaaBothA
namespace Go.Proofs.Ytonjbofdmmnpdaa
open Go.RowKit
set_option linter.unusedVariables false
set_option linter.unusedSimpArgs false

open Classical in
/-- The error of New. -/
noncomputable def ferr (vs : List Int) (first n : Int) : Int :=
  if n < 1 ∨ 64 < n then 2 else if first < 0 ∨ (vs.length : Int) - 4 - n < first then 3 else if (∃ j : Nat, (j : Int) < 4 + n ∧ lk vs (first.toNat + j) ≠ 0) then 8 else 0
def FOut (k : Int) (w w' : World) (t : TypeId) (cs : Array Value) (e : Ending) : Prop :=
  Ch (fun _ => False) w w' ∧ ((k ≠ 0 ∧ e = .returned (.tuple #[.pointer none, .int .i64 k])) ∨ (k = 0 ∧ ∃ q, w.heap.size ≤ q ∧ e = .returned (.tuple #[.pointer (some ⟨q, 0, none⟩), .int .i64 0]) ∧ Blk w' q t cs))
theorem ferr_2 {vs : List Int} {first n : Int} (h : n < 1 ∨ 64 < n) : ferr vs first n = 2 := by unfold ferr; rw [if_pos h]
theorem ferr_3 {vs : List Int} {first n : Int} (h : ¬ (n < 1 ∨ 64 < n)) (h2 : first < 0 ∨ (vs.length : Int) - 4 - n < first) : ferr vs first n = 3 := by unfold ferr; rw [if_neg h, if_pos h2]
theorem ferr_8 {vs : List Int} {first n : Nat} (h : 1 ≤ n ∧ n ≤ 64) (h2 : first + 4 + n ≤ vs.length) (j : Nat) (hj : j < 4 + n) (hz : lk vs (first + j) ≠ 0) : ferr vs first n = 8 := by
  unfold ferr
  rw [if_neg (by omega), if_neg (by omega), if_pos ⟨j, by omega, by rw [Int.toNat_natCast]; exact hz⟩]
theorem ferr_0 {vs : List Int} {first n : Nat} (h : 1 ≤ n ∧ n ≤ 64) (h2 : first + 4 + n ≤ vs.length) (hz : ∀ j, j < 4 + n → lk vs (first + j) = 0) : ferr vs first n = 0 := by
  unfold ferr
  rw [if_neg (by omega), if_neg (by omega), if_neg]
  rintro ⟨j, hj, hb⟩
  rw [Int.toNat_natCast] at hb
  exact hb (hz j (by omega))

set_option maxRecDepth 100000 in
set_option maxHeartbeats 2000000 in
theorem fnew_any (B p cb : Nat) (lv : Value) (s : BS) (w : World) (first n : Int) (h : Bank B w p cb lv s.vs s.lg) (hLn : s.vs.length ≤ 4096) :
    Calls Try.prog 25 #[.pointer (some ⟨p, 0, none⟩), .int .i64 first, .int .i64 n] w fun e w' => FOut (ferr s.vs first n) w w' 98 (fzero p first.toNat n.toNat) e := by
  by_cases g1 : n < 1
  · have HQ := hid (ferr_2 (vs := s.vs) (first := first) (.inl g1))
    have d0 : decide (n < 1) = true := decide_eq_true g1
    go_enter Try.func25, Try.ntmps25
    go_wp2_with fail
    go_ret2
    exact ⟨Ch.refl _ _, .inl ⟨by rw [HQ.out]; decide, by rw [HQ.out]; rfl⟩⟩
  · by_cases g2 : 64 < n
    · have HQ := hid (ferr_2 (vs := s.vs) (first := first) (.inr g2))
      have d0 : decide (n < 1) = false := decide_eq_false g1
      have d1 : decide (64 < n) = true := decide_eq_true g2
      go_enter Try.func25, Try.ntmps25
      go_wp2_with fail
      go_ret2
      exact ⟨Ch.refl _ _, .inl ⟨by rw [HQ.out]; decide, by rw [HQ.out]; rfl⟩⟩
    · obtain ⟨n, rfl⟩ := Int.eq_ofNat_of_zero_le (show 0 ≤ n by omega)
      have d0 : decide ((n : Int) < 1) = false := decide_eq_false g1
      have d1 : decide ((64 : Int) < (n : Int)) = false := decide_eq_false g2
      by_cases g3 : first < 0
      · have HQ := hid (ferr_3 (vs := s.vs) (by omega : ¬ ((n : Int) < 1 ∨ 64 < (n : Int))) (.inl g3))
        have d2 : decide (first < 0) = true := decide_eq_true g3
        go_enter Try.func25, Try.ntmps25
        go_wp2_with fail
        refine (values_any B p cb lv s w h).mono ?_
        rintro e w1 ⟨gv, rfl, hval, hc1, hgv⟩
        go_wp2_with fail
        go_ret2
        exact ⟨hc1, .inl ⟨by rw [HQ.out]; decide, by rw [HQ.out]; rfl⟩⟩
      · have d2 : decide (first < 0) = false := decide_eq_false g3
        by_cases g4 : (s.vs.length : Int) - 4 - (n : Int) < first
        · have HQ := hid (ferr_3 (vs := s.vs) (by omega : ¬ ((n : Int) < 1 ∨ 64 < (n : Int))) (.inr g4))
          have d3 : decide ((s.vs.length : Int) - 4 - (n : Int) < first) = true := decide_eq_true g4
          go_enter Try.func25, Try.ntmps25
          go_wp2_with fail
          refine (values_any B p cb lv s w h).mono ?_
          rintro e w1 ⟨gv, rfl, hval, hc1, hgv⟩
          go_wp2_with fail
          go_ret2
          exact ⟨hc1, .inl ⟨by rw [HQ.out]; decide, by rw [HQ.out]; rfl⟩⟩
        · obtain ⟨first, rfl⟩ := Int.eq_ofNat_of_zero_le (show 0 ≤ first by omega)
          have d3 : decide ((s.vs.length : Int) - 4 - (n : Int) < (first : Int)) = false := decide_eq_false g4
          go_enter Try.func25, Try.ntmps25
          go_wp2_with fail
          refine (values_any B p cb lv s w h).mono ?_
          rintro e w1 ⟨gv, rfl, hval, hc1, hgv⟩
          go_wp2_with fail
          go_loop [10, 40] (fun _ i => ∃ j : Nat, j ≤ 4 + n ∧ i = .int .i64 j ∧ ∀ i, i < j → lk s.vs (first + i) = 0) (fun _ i => 4 + n - (intOf i).toNat)
          case atStart => exact ⟨0, Nat.zero_le _, rfl, fun i hi => absurd hi (Nat.not_lt_zero _)⟩
          case round =>
            obtain ⟨j, hj, rfl, hinv⟩ := hrel
            have Hinv := hid hinv
            clear hinv
            by_cases hlt : j < 4 + n
            · have hcell := (hval.cell (first + j)).trans (u64s_getD s.vs (first + j) (by omega))
              have d5 : decide (j < 4 + n) = true := by simpa using hlt
              obtain ⟨z, hz⟩ : ∃ z, z = lk s.vs (first + j) := ⟨_, rfl⟩
              rw [← hz] at hcell
              have Hz := hid hz
              clear hz
              by_cases hz0 : z = 0
              · subst hz0
                go_wp2_with fail
                go_round
                case rel => exact ⟨j + 1, by omega, by go_num, fun i hi => by
                  by_cases hij : i < j
                  · exact Hinv.out i hij
                  · have : i = j := by omega
                    subst this
                    exact Hz.out.symm⟩
                case measure => simp [intOf]; omega
              · have hzb : (z != 0) = true := by simpa using hz0
                have HQ := hid (ferr_8 (vs := s.vs) (first := first) (n := n) (by omega) (by omega) j hlt (by rw [← Hz.out]; exact hz0))
                go_wp2_with fail
                go_ret2
                exact ⟨hc1, .inl ⟨by rw [HQ.out]; decide, by rw [HQ.out]; rfl⟩⟩
            · have hjn : j = 4 + n := by omega
              have HQ := hid (ferr_0 (vs := s.vs) (first := first) (n := n) (by omega) (by omega) (fun i hi => Hinv.out i (by omega)))
              clear hjn
              go_wp2_with fail
              go_ret2
              exact ⟨hc1.alloc _, .inr ⟨HQ.out, _, hc1.size, rfl, Blk.new w1 _ (fzero p first n)⟩⟩

def rfzero (p first n : Nat) : Array Value := #[.pointer (some ⟨p, 0, none⟩), .int .i64 first, .int .i64 n, .int .u64 0, .bool false, .bool false]
set_option maxRecDepth 100000 in
set_option maxHeartbeats 2000000 in
theorem rfnew_any (B p vb : Nat) (lv : Value) (s : BS) (w : World) (first n : Int) (h : RBank B w p vb lv s.vs s.lg) (hLn : s.vs.length ≤ 4096) :
    Calls Try.prog 26 #[.pointer (some ⟨p, 0, none⟩), .int .i64 first, .int .i64 n] w fun e w' => FOut (ferr s.vs first n) w w' 100 (rfzero p first.toNat n.toNat) e := by
  have hq0 := h.hp.cell 0
  simp only [List.getElem?_toArray, List.getElem?_cons_zero] at hq0
  by_cases g1 : n < 1
  · have HQ := hid (ferr_2 (vs := s.vs) (first := first) (.inl g1))
    have d0 : decide (n < 1) = true := decide_eq_true g1
    go_enter Try.func26, Try.ntmps26
    go_wp2_with fail
    go_ret2
    exact ⟨Ch.refl _ _, .inl ⟨by rw [HQ.out]; decide, by rw [HQ.out]; rfl⟩⟩
  · by_cases g2 : 64 < n
    · have HQ := hid (ferr_2 (vs := s.vs) (first := first) (.inr g2))
      have d0 : decide (n < 1) = false := decide_eq_false g1
      have d1 : decide (64 < n) = true := decide_eq_true g2
      go_enter Try.func26, Try.ntmps26
      go_wp2_with fail
      go_ret2
      exact ⟨Ch.refl _ _, .inl ⟨by rw [HQ.out]; decide, by rw [HQ.out]; rfl⟩⟩
    · obtain ⟨n, rfl⟩ := Int.eq_ofNat_of_zero_le (show 0 ≤ n by omega)
      have d0 : decide ((n : Int) < 1) = false := decide_eq_false g1
      have d1 : decide ((64 : Int) < (n : Int)) = false := decide_eq_false g2
      by_cases g3 : first < 0
      · have HQ := hid (ferr_3 (vs := s.vs) (by omega : ¬ ((n : Int) < 1 ∨ 64 < (n : Int))) (.inl g3))
        have d2 : decide (first < 0) = true := decide_eq_true g3
        go_enter Try.func26, Try.ntmps26
        go_wp2_with fail
        go_ret2
        exact ⟨Ch.refl _ _, .inl ⟨by rw [HQ.out]; decide, by rw [HQ.out]; rfl⟩⟩
      · have d2 : decide (first < 0) = false := decide_eq_false g3
        by_cases g4 : (s.vs.length : Int) - 4 - (n : Int) < first
        · have HQ := hid (ferr_3 (vs := s.vs) (by omega : ¬ ((n : Int) < 1 ∨ 64 < (n : Int))) (.inr g4))
          have d3 : decide ((s.vs.length : Int) - 4 - (n : Int) < first) = true := decide_eq_true g4
          go_enter Try.func26, Try.ntmps26
          go_wp2_with fail
          go_ret2
          exact ⟨Ch.refl _ _, .inl ⟨by rw [HQ.out]; decide, by rw [HQ.out]; rfl⟩⟩
        · obtain ⟨first, rfl⟩ := Int.eq_ofNat_of_zero_le (show 0 ≤ first by omega)
          have d3 : decide ((s.vs.length : Int) - 4 - (n : Int) < (first : Int)) = false := decide_eq_false g4
          go_enter Try.func26, Try.ntmps26
          go_wp2_with fail
          go_loop [8] (fun i => ∃ j : Nat, j ≤ 4 + n ∧ i = .int .i64 j ∧ ∀ i, i < j → lk s.vs (first + i) = 0) (fun i => 4 + n - (intOf i).toNat)
          case atStart => exact ⟨0, Nat.zero_le _, rfl, fun i hi => absurd hi (Nat.not_lt_zero _)⟩
          case round =>
            obtain ⟨j, hj, rfl, hinv⟩ := hrel
            have Hinv := hid hinv
            clear hinv
            by_cases hlt : j < 4 + n
            · have hcell := (h.hc.cell (first + j)).trans (u64s_getD s.vs (first + j) (by omega))
              have d5 : decide (j < 4 + n) = true := by simpa using hlt
              have d6 : decide ((j : Int) < 4 + (n : Int)) = true := decide_eq_true (by omega)
              obtain ⟨z, hz⟩ : ∃ z, z = lk s.vs (first + j) := ⟨_, rfl⟩
              rw [← hz] at hcell
              have Hz := hid hz
              clear hz
              by_cases hz0 : z = 0
              · subst hz0
                go_wp2_with fail
                go_round
                case rel => exact ⟨j + 1, by omega, by go_num, fun i hi => by
                  by_cases hij : i < j
                  · exact Hinv.out i hij
                  · have : i = j := by omega
                    subst this
                    exact Hz.out.symm⟩
                case measure => simp [intOf]; omega
              · have hzb : (z != 0) = true := by simpa using hz0
                have HQ := hid (ferr_8 (vs := s.vs) (first := first) (n := n) (by omega) (by omega) j hlt (by rw [← Hz.out]; exact hz0))
                go_wp2_with fail
                go_ret2
                exact ⟨Ch.refl _ _, .inl ⟨by rw [HQ.out]; decide, by rw [HQ.out]; rfl⟩⟩
            · have hjn : j = 4 + n := by omega
              have d6 : decide ((j : Int) < 4 + (n : Int)) = false := decide_eq_false (by omega)
              have HQ := hid (ferr_0 (vs := s.vs) (first := first) (n := n) (by omega) (by omega) (fun i hi => Hinv.out i (by omega)))
              clear hjn
              go_wp2_with fail
              go_ret2
              exact ⟨(Ch.refl _ w).alloc _, .inr ⟨HQ.out, _, Nat.le_refl _, rfl, Blk.new w _ (rfzero p first n)⟩⟩
end Go.Proofs.Ytonjbofdmmnpdaa
