/- Runes: the small functions of both packages. -/
import Derived.Test.YtefpabicgefciaaRows
import Derived.Test.YtefpabicgefciaaLib
import Derived.BigGuardPart
import Derived.Lib.EndianBits
namespace Go.Proofs.Ytefpabicgefciaa
open Go.RowKit
set_option linter.unusedVariables false

/-- The bytes that a first byte announces. -/
def ann (b : Int) : Int := if 244 < b then 0 else if 240 ≤ b then 4 else if 224 ≤ b then 3 else if 194 ≤ b then 2 else if b < 128 then 1 else 0
/-- Is it a continuation byte? -/
def cont (b : Int) : Bool := decide (128 ≤ b ∧ b < 192)
/-- Is it a rune? -/
def runeB (r : Int) : Bool := decide (0 ≤ r ∧ r ≤ 1114111 ∧ (r < 55296 ∨ 57343 < r))
/-- The bytes of its encoding. -/
def rlen (r : Int) : Int := if runeB r = false then 0 else if r < 128 then 1 else if r < 2048 then 2 else if r < 65536 then 3 else 4

theorem ann_any (b : Int) (w : World) : Calls Try.prog 49 #[.int .u8 b] w fun e w' => e = .returned (.int .i64 (ann b)) ∧ w = w' := by
  by_cases h2 : 244 < b
  · have hv : ann b = 0 := by simp [ann, *]
    rw [hv]
    clear hv
    go_enter Try.func49, Try.ntmps49
    go_wp2_with fail
    go_ret
    exact ⟨rfl, rfl⟩
  · by_cases h4 : 240 ≤ b
    · have hv : ann b = 4 := by simp [ann, *]
      rw [hv]
      clear hv
      go_enter Try.func49, Try.ntmps49
      go_wp2_with fail
      go_ret
      exact ⟨rfl, rfl⟩
    · by_cases h6 : 224 ≤ b
      · have hv : ann b = 3 := by simp [ann, *]
        rw [hv]
        clear hv
        go_enter Try.func49, Try.ntmps49
        go_wp2_with fail
        go_ret
        exact ⟨rfl, rfl⟩
      · by_cases h8 : 194 ≤ b
        · have hv : ann b = 2 := by simp [ann, *]
          rw [hv]
          clear hv
          go_enter Try.func49, Try.ntmps49
          go_wp2_with fail
          go_ret
          exact ⟨rfl, rfl⟩
        · by_cases h10 : b < 128
          · have hv : ann b = 1 := by simp [ann, *]
            rw [hv]
            clear hv
            go_enter Try.func49, Try.ntmps49
            go_wp2_with fail
            go_ret
            exact ⟨rfl, rfl⟩
          · have hv : ann b = 0 := by simp [ann, *]
            rw [hv]
            clear hv
            go_enter Try.func49, Try.ntmps49
            go_wp2_with fail
            go_ret
            exact ⟨rfl, rfl⟩

theorem cont_any (b : Int) (w : World) : Calls Try.prog 50 #[.int .u8 b] w fun e w' => e = .returned (.bool (cont b)) ∧ w = w' := by
  by_cases h2 : 128 ≤ b
  · by_cases h4 : b ≤ 191
    · have hv : cont b = true := by simp [cont]; omega
      rw [hv]
      clear hv
      go_enter Try.func50, Try.ntmps50
      go_wp2_with fail
      go_ret
      exact ⟨rfl, rfl⟩
    · have hv : cont b = false := by simp [cont]; omega
      rw [hv]
      clear hv
      go_enter Try.func50, Try.ntmps50
      go_wp2_with fail
      go_ret
      exact ⟨rfl, rfl⟩
  · have hv : cont b = false := by simp [cont]; omega
    rw [hv]
    clear hv
    go_enter Try.func50, Try.ntmps50
    go_wp2_with fail
    go_ret
    exact ⟨rfl, rfl⟩

theorem rlen_any (r : Int) (w : World) : Calls Try.prog 51 #[.int .i64 r] w fun e w' => e = .returned (.int .i64 (rlen r)) ∧ w = w' := by
  by_cases h2 : r < 0
  · have hv : rlen r = 0 := by (unfold rlen runeB; (first | rw [if_pos (by simp; omega)] | rw [if_neg (by simp; omega)]); repeat (first | rw [if_pos (by omega)] | rw [if_neg (by omega)]))
    rw [hv]
    clear hv
    go_enter Try.func51, Try.ntmps51
    go_wp2_with fail
    go_ret
    exact ⟨rfl, rfl⟩
  · by_cases h4 : 1114111 < r
    · have hv : rlen r = 0 := by (unfold rlen runeB; (first | rw [if_pos (by simp; omega)] | rw [if_neg (by simp; omega)]); repeat (first | rw [if_pos (by omega)] | rw [if_neg (by omega)]))
      rw [hv]
      clear hv
      go_enter Try.func51, Try.ntmps51
      go_wp2_with fail
      go_ret
      exact ⟨rfl, rfl⟩
    · by_cases h6 : 55296 ≤ r
      · by_cases h8 : r ≤ 57343
        · have hv : rlen r = 0 := by (unfold rlen runeB; (first | rw [if_pos (by simp; omega)] | rw [if_neg (by simp; omega)]); repeat (first | rw [if_pos (by omega)] | rw [if_neg (by omega)]))
          rw [hv]
          clear hv
          go_enter Try.func51, Try.ntmps51
          go_wp2_with fail
          go_ret
          exact ⟨rfl, rfl⟩
        · by_cases h10 : r < 65536
          · have hv : rlen r = 3 := by (unfold rlen runeB; (first | rw [if_pos (by simp; omega)] | rw [if_neg (by simp; omega)]); repeat (first | rw [if_pos (by omega)] | rw [if_neg (by omega)]))
            rw [hv]
            clear hv
            go_enter Try.func51, Try.ntmps51
            go_wp2_with fail
            go_ret
            exact ⟨rfl, rfl⟩
          · have hv : rlen r = 4 := by (unfold rlen runeB; (first | rw [if_pos (by simp; omega)] | rw [if_neg (by simp; omega)]); repeat (first | rw [if_pos (by omega)] | rw [if_neg (by omega)]))
            rw [hv]
            clear hv
            go_enter Try.func51, Try.ntmps51
            go_wp2_with fail
            go_ret
            exact ⟨rfl, rfl⟩
      · by_cases h8 : r < 128
        · have hv : rlen r = 1 := by (unfold rlen runeB; (first | rw [if_pos (by simp; omega)] | rw [if_neg (by simp; omega)]); repeat (first | rw [if_pos (by omega)] | rw [if_neg (by omega)]))
          rw [hv]
          clear hv
          go_enter Try.func51, Try.ntmps51
          go_wp2_with fail
          go_ret
          exact ⟨rfl, rfl⟩
        · by_cases h10 : r < 2048
          · have hv : rlen r = 2 := by (unfold rlen runeB; (first | rw [if_pos (by simp; omega)] | rw [if_neg (by simp; omega)]); repeat (first | rw [if_pos (by omega)] | rw [if_neg (by omega)]))
            rw [hv]
            clear hv
            go_enter Try.func51, Try.ntmps51
            go_wp2_with fail
            go_ret
            exact ⟨rfl, rfl⟩
          · have hv : rlen r = 3 := by (unfold rlen runeB; (first | rw [if_pos (by simp; omega)] | rw [if_neg (by simp; omega)]); repeat (first | rw [if_pos (by omega)] | rw [if_neg (by omega)]))
            rw [hv]
            clear hv
            go_enter Try.func51, Try.ntmps51
            go_wp2_with fail
            go_ret
            exact ⟨rfl, rfl⟩

end Go.Proofs.Ytefpabicgefciaa
