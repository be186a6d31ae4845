/- Check and Place of the store, and of the reference. -/
import Derived.Test.YtefpabicgefciaaRunesF
import Derived.Test.YtefpabicgefciaaMix
namespace Go.Proofs.Ytefpabicgefciaa
open Go.RowKit
set_option linter.unusedVariables false
set_option linter.unusedSimpArgs false

/-- A configuration. -/
structure Cf where
  sl : Int
  ge : Int
  cl : Int
  re : Int
  qu : Int
  ba : Int
  fe : Int
  tx : ByteArray
def Cf.v (c : Cf) : Value := .agg #[.int .i64 c.sl, .int .u64 c.ge, .int .i64 c.cl, .int .i64 c.re, .int .i64 c.qu, .int .i64 c.ba, .int .i64 c.fe, .string c.tx]
def Cf.nums (c : Cf) : Prop := (1 ≤ c.sl ∧ c.sl ≤ 16384) ∧ (1 ≤ c.ge ∧ c.ge ≤ 4294967295) ∧ (0 ≤ c.cl ∧ c.cl ≤ 8) ∧ (0 ≤ c.re ∧ c.re ≤ 8) ∧ (1 ≤ c.qu ∧ c.qu ≤ 64) ∧ (1 ≤ c.ba ∧ c.ba ≤ 16) ∧ (1 ≤ c.fe ∧ c.fe ≤ 64)
open Classical in
/-- The error of a configuration. -/
noncomputable def ckE (c : Cf) : Int := if ¬ c.nums then 2 else if 65536 < c.tx.size then 5 else if vdB (bs c.tx) = false then 11 else 0

def winB (n lo hi : Int) : Bool := decide (lo ≤ n ∧ n ≤ hi)
theorem cwithin_any (n lo hi : Int) (w : World) : Calls Try.prog 32 #[.int .i64 n, .int .i64 lo, .int .i64 hi] w fun e w' => e = .returned (.bool (winB n lo hi)) ∧ w = w' := by
  by_cases h1 : lo ≤ n
  · by_cases h2 : n ≤ hi
    · rw [show winB n lo hi = true by simp [winB, h1, h2]]
      go_enter Try.func32, Try.ntmps32
      go_wp2_with fail
      go_ret
      exact ⟨rfl, rfl⟩
    · rw [show winB n lo hi = false by simp [winB, h2]]
      go_enter Try.func32, Try.ntmps32
      go_wp2_with fail
      go_ret
      exact ⟨rfl, rfl⟩
  · rw [show winB n lo hi = false by simp [winB, h1]]
    go_enter Try.func32, Try.ntmps32
    go_wp2_with fail
    go_ret
    exact ⟨rfl, rfl⟩

theorem check_f00 (sl ge cl re qu ba fe : Int) (tx : ByteArray) (w : World) (hsl : winB sl 1 16384 = false) : Calls Try.prog 21 #[.agg #[.int .i64 sl, .int .u64 ge, .int .i64 cl, .int .i64 re, .int .i64 qu, .int .i64 ba, .int .i64 fe, .string tx]] w (fun e w' => e = .returned (.int .i64 2) ∧ Below w.heap.size w w') := by
  go_enter Try.func21, Try.ntmps21
  go_wp2_with (go_at_call 32; refine (cwithin_any _ _ _ _).mono ?_; rintro e w' ⟨rfl, rfl⟩)
  go_ret
  exact ⟨rfl, (Below.refl _ _).alloc (Nat.le_refl _) _⟩
theorem check_f10 (sl ge cl re qu ba fe : Int) (tx : ByteArray) (w : World) (hsl : winB sl 1 16384 = true) (hge : decide (ge < 1) = true) : Calls Try.prog 21 #[.agg #[.int .i64 sl, .int .u64 ge, .int .i64 cl, .int .i64 re, .int .i64 qu, .int .i64 ba, .int .i64 fe, .string tx]] w (fun e w' => e = .returned (.int .i64 2) ∧ Below w.heap.size w w') := by
  go_enter Try.func21, Try.ntmps21
  go_wp2_with (go_at_call 32; refine (cwithin_any _ _ _ _).mono ?_; rintro e w' ⟨rfl, rfl⟩)
  go_ret
  exact ⟨rfl, (Below.refl _ _).alloc (Nat.le_refl _) _⟩
theorem check_f11 (sl ge cl re qu ba fe : Int) (tx : ByteArray) (w : World) (hsl : winB sl 1 16384 = true) (hge : decide (ge < 1) = false) (kge : decide ((4294967295 : Int) < ge) = true) : Calls Try.prog 21 #[.agg #[.int .i64 sl, .int .u64 ge, .int .i64 cl, .int .i64 re, .int .i64 qu, .int .i64 ba, .int .i64 fe, .string tx]] w (fun e w' => e = .returned (.int .i64 2) ∧ Below w.heap.size w w') := by
  go_enter Try.func21, Try.ntmps21
  go_wp2_with (go_at_call 32; refine (cwithin_any _ _ _ _).mono ?_; rintro e w' ⟨rfl, rfl⟩)
  go_ret
  exact ⟨rfl, (Below.refl _ _).alloc (Nat.le_refl _) _⟩
theorem check_f20 (sl ge cl re qu ba fe : Int) (tx : ByteArray) (w : World) (hsl : winB sl 1 16384 = true) (hge : decide (ge < 1) = false) (kge : decide ((4294967295 : Int) < ge) = false) (hcl : winB cl 0 8 = false) : Calls Try.prog 21 #[.agg #[.int .i64 sl, .int .u64 ge, .int .i64 cl, .int .i64 re, .int .i64 qu, .int .i64 ba, .int .i64 fe, .string tx]] w (fun e w' => e = .returned (.int .i64 2) ∧ Below w.heap.size w w') := by
  go_enter Try.func21, Try.ntmps21
  go_wp2_with (go_at_call 32; refine (cwithin_any _ _ _ _).mono ?_; rintro e w' ⟨rfl, rfl⟩)
  go_ret
  exact ⟨rfl, (Below.refl _ _).alloc (Nat.le_refl _) _⟩
theorem check_f30 (sl ge cl re qu ba fe : Int) (tx : ByteArray) (w : World) (hsl : winB sl 1 16384 = true) (hge : decide (ge < 1) = false) (kge : decide ((4294967295 : Int) < ge) = false) (hcl : winB cl 0 8 = true) (hre : winB re 0 8 = false) : Calls Try.prog 21 #[.agg #[.int .i64 sl, .int .u64 ge, .int .i64 cl, .int .i64 re, .int .i64 qu, .int .i64 ba, .int .i64 fe, .string tx]] w (fun e w' => e = .returned (.int .i64 2) ∧ Below w.heap.size w w') := by
  go_enter Try.func21, Try.ntmps21
  go_wp2_with (go_at_call 32; refine (cwithin_any _ _ _ _).mono ?_; rintro e w' ⟨rfl, rfl⟩)
  go_ret
  exact ⟨rfl, (Below.refl _ _).alloc (Nat.le_refl _) _⟩
theorem check_f40 (sl ge cl re qu ba fe : Int) (tx : ByteArray) (w : World) (hsl : winB sl 1 16384 = true) (hge : decide (ge < 1) = false) (kge : decide ((4294967295 : Int) < ge) = false) (hcl : winB cl 0 8 = true) (hre : winB re 0 8 = true) (hqu : winB qu 1 64 = false) : Calls Try.prog 21 #[.agg #[.int .i64 sl, .int .u64 ge, .int .i64 cl, .int .i64 re, .int .i64 qu, .int .i64 ba, .int .i64 fe, .string tx]] w (fun e w' => e = .returned (.int .i64 2) ∧ Below w.heap.size w w') := by
  go_enter Try.func21, Try.ntmps21
  go_wp2_with (go_at_call 32; refine (cwithin_any _ _ _ _).mono ?_; rintro e w' ⟨rfl, rfl⟩)
  go_ret
  exact ⟨rfl, (Below.refl _ _).alloc (Nat.le_refl _) _⟩
theorem check_f50 (sl ge cl re qu ba fe : Int) (tx : ByteArray) (w : World) (hsl : winB sl 1 16384 = true) (hge : decide (ge < 1) = false) (kge : decide ((4294967295 : Int) < ge) = false) (hcl : winB cl 0 8 = true) (hre : winB re 0 8 = true) (hqu : winB qu 1 64 = true) (hba : winB ba 1 16 = false) : Calls Try.prog 21 #[.agg #[.int .i64 sl, .int .u64 ge, .int .i64 cl, .int .i64 re, .int .i64 qu, .int .i64 ba, .int .i64 fe, .string tx]] w (fun e w' => e = .returned (.int .i64 2) ∧ Below w.heap.size w w') := by
  go_enter Try.func21, Try.ntmps21
  go_wp2_with (go_at_call 32; refine (cwithin_any _ _ _ _).mono ?_; rintro e w' ⟨rfl, rfl⟩)
  go_ret
  exact ⟨rfl, (Below.refl _ _).alloc (Nat.le_refl _) _⟩
theorem check_f60 (sl ge cl re qu ba fe : Int) (tx : ByteArray) (w : World) (hsl : winB sl 1 16384 = true) (hge : decide (ge < 1) = false) (kge : decide ((4294967295 : Int) < ge) = false) (hcl : winB cl 0 8 = true) (hre : winB re 0 8 = true) (hqu : winB qu 1 64 = true) (hba : winB ba 1 16 = true) (hfe : winB fe 1 64 = false) : Calls Try.prog 21 #[.agg #[.int .i64 sl, .int .u64 ge, .int .i64 cl, .int .i64 re, .int .i64 qu, .int .i64 ba, .int .i64 fe, .string tx]] w (fun e w' => e = .returned (.int .i64 2) ∧ Below w.heap.size w w') := by
  go_enter Try.func21, Try.ntmps21
  go_wp2_with (go_at_call 32; refine (cwithin_any _ _ _ _).mono ?_; rintro e w' ⟨rfl, rfl⟩)
  go_ret
  exact ⟨rfl, (Below.refl _ _).alloc (Nat.le_refl _) _⟩
theorem check_long (sl ge cl re qu ba fe : Int) (tx : ByteArray) (w : World) (hsl : winB sl 1 16384 = true) (hge : decide (ge < 1) = false) (kge : decide ((4294967295 : Int) < ge) = false) (hcl : winB cl 0 8 = true) (hre : winB re 0 8 = true) (hqu : winB qu 1 64 = true) (hba : winB ba 1 16 = true) (hfe : winB fe 1 64 = true) (hz : 65536 < tx.size) : Calls Try.prog 21 #[.agg #[.int .i64 sl, .int .u64 ge, .int .i64 cl, .int .i64 re, .int .i64 qu, .int .i64 ba, .int .i64 fe, .string tx]] w (fun e w' => e = .returned (.int .i64 5) ∧ Below w.heap.size w w') := by
  go_enter Try.func21, Try.ntmps21
  go_wp2_with (go_at_call 32; refine (cwithin_any _ _ _ _).mono ?_; rintro e w' ⟨rfl, rfl⟩)
  go_ret
  exact ⟨rfl, (Below.refl _ _).alloc (Nat.le_refl _) _⟩
theorem check_text_false (sl ge cl re qu ba fe : Int) (tx : ByteArray) (w : World) (hsl : winB sl 1 16384 = true) (hge : decide (ge < 1) = false) (kge : decide ((4294967295 : Int) < ge) = false) (hcl : winB cl 0 8 = true) (hre : winB re 0 8 = true) (hqu : winB qu 1 64 = true) (hba : winB ba 1 16 = true) (hfe : winB fe 1 64 = true) (hz : tx.size ≤ 65536) (hv : vdB (bs tx) = false) : Calls Try.prog 21 #[.agg #[.int .i64 sl, .int .u64 ge, .int .i64 cl, .int .i64 re, .int .i64 qu, .int .i64 ba, .int .i64 fe, .string tx]] w (fun e w' => e = .returned (.int .i64 11) ∧ Below w.heap.size w w') := by
  go_enter Try.func21, Try.ntmps21
  go_wp2_with (go_at_call 32; refine (cwithin_any _ _ _ _).mono ?_; rintro e w' ⟨rfl, rfl⟩)
  refine (valid_any tx _ (by omega)).mono ?_
  rintro e w1 ⟨rfl, hb⟩
  have hbel : Below w.heap.size w w1 := ((Below.refl _ _).alloc (Nat.le_refl _) _).trans (hb.mono (by simp))
  go_wp2_with fail
  go_ret
  exact ⟨rfl, hbel⟩
theorem check_text_true (sl ge cl re qu ba fe : Int) (tx : ByteArray) (w : World) (hsl : winB sl 1 16384 = true) (hge : decide (ge < 1) = false) (kge : decide ((4294967295 : Int) < ge) = false) (hcl : winB cl 0 8 = true) (hre : winB re 0 8 = true) (hqu : winB qu 1 64 = true) (hba : winB ba 1 16 = true) (hfe : winB fe 1 64 = true) (hz : tx.size ≤ 65536) (hv : vdB (bs tx) = true) : Calls Try.prog 21 #[.agg #[.int .i64 sl, .int .u64 ge, .int .i64 cl, .int .i64 re, .int .i64 qu, .int .i64 ba, .int .i64 fe, .string tx]] w (fun e w' => e = .returned (.int .i64 0) ∧ Below w.heap.size w w') := by
  go_enter Try.func21, Try.ntmps21
  go_wp2_with (go_at_call 32; refine (cwithin_any _ _ _ _).mono ?_; rintro e w' ⟨rfl, rfl⟩)
  refine (valid_any tx _ (by omega)).mono ?_
  rintro e w1 ⟨rfl, hb⟩
  have hbel : Below w.heap.size w w1 := ((Below.refl _ _).alloc (Nat.le_refl _) _).trans (hb.mono (by simp))
  go_wp2_with fail
  go_ret
  exact ⟨rfl, hbel⟩
theorem check_all (c : Cf) (w : World) (hm : c.tx.size ≤ 1000000) : Calls Try.prog 21 #[c.v] w fun e w' => e = .returned (.int .i64 (ckE c)) ∧ Below w.heap.size w w' := by
  obtain ⟨sl, ge, cl, re, qu, ba, fe, tx⟩ := c
  simp only [Cf.v]
  by_cases csl : ¬ (1 ≤ sl ∧ sl ≤ 16384)
  · have hv : ckE ⟨sl, ge, cl, re, qu, ba, fe, tx⟩ = 2 := by unfold ckE Cf.nums; rw [if_pos]; simp only; omega
    rw [hv]
    exact check_f00 sl ge cl re qu ba fe tx w (by simp [winB]; omega)
  have csl := Decidable.not_not.1 csl
  have hsl : winB sl 1 16384 = true := by simp [winB]; omega
  by_cases cge : ¬ (1 ≤ ge ∧ ge ≤ 4294967295)
  · have hv : ckE ⟨sl, ge, cl, re, qu, ba, fe, tx⟩ = 2 := by unfold ckE Cf.nums; rw [if_pos]; simp only; omega
    rw [hv]
    by_cases d : ge < 1
    · exact check_f10 sl ge cl re qu ba fe tx w hsl (by simpa using d)
    · exact check_f11 sl ge cl re qu ba fe tx w hsl (by simpa using d) (by simp; omega)
  have cge := Decidable.not_not.1 cge
  have hge : decide (ge < 1) = false := by simp; omega
  have kge : decide ((4294967295 : Int) < ge) = false := by simp; omega
  by_cases ccl : ¬ (0 ≤ cl ∧ cl ≤ 8)
  · have hv : ckE ⟨sl, ge, cl, re, qu, ba, fe, tx⟩ = 2 := by unfold ckE Cf.nums; rw [if_pos]; simp only; omega
    rw [hv]
    exact check_f20 sl ge cl re qu ba fe tx w hsl hge kge (by simp [winB]; omega)
  have ccl := Decidable.not_not.1 ccl
  have hcl : winB cl 0 8 = true := by simp [winB]; omega
  by_cases cre : ¬ (0 ≤ re ∧ re ≤ 8)
  · have hv : ckE ⟨sl, ge, cl, re, qu, ba, fe, tx⟩ = 2 := by unfold ckE Cf.nums; rw [if_pos]; simp only; omega
    rw [hv]
    exact check_f30 sl ge cl re qu ba fe tx w hsl hge kge hcl (by simp [winB]; omega)
  have cre := Decidable.not_not.1 cre
  have hre : winB re 0 8 = true := by simp [winB]; omega
  by_cases cqu : ¬ (1 ≤ qu ∧ qu ≤ 64)
  · have hv : ckE ⟨sl, ge, cl, re, qu, ba, fe, tx⟩ = 2 := by unfold ckE Cf.nums; rw [if_pos]; simp only; omega
    rw [hv]
    exact check_f40 sl ge cl re qu ba fe tx w hsl hge kge hcl hre (by simp [winB]; omega)
  have cqu := Decidable.not_not.1 cqu
  have hqu : winB qu 1 64 = true := by simp [winB]; omega
  by_cases cba : ¬ (1 ≤ ba ∧ ba ≤ 16)
  · have hv : ckE ⟨sl, ge, cl, re, qu, ba, fe, tx⟩ = 2 := by unfold ckE Cf.nums; rw [if_pos]; simp only; omega
    rw [hv]
    exact check_f50 sl ge cl re qu ba fe tx w hsl hge kge hcl hre hqu (by simp [winB]; omega)
  have cba := Decidable.not_not.1 cba
  have hba : winB ba 1 16 = true := by simp [winB]; omega
  by_cases cfe : ¬ (1 ≤ fe ∧ fe ≤ 64)
  · have hv : ckE ⟨sl, ge, cl, re, qu, ba, fe, tx⟩ = 2 := by unfold ckE Cf.nums; rw [if_pos]; simp only; omega
    rw [hv]
    exact check_f60 sl ge cl re qu ba fe tx w hsl hge kge hcl hre hqu hba (by simp [winB]; omega)
  have cfe := Decidable.not_not.1 cfe
  have hfe : winB fe 1 64 = true := by simp [winB]; omega
  have hn : Cf.nums ⟨sl, ge, cl, re, qu, ba, fe, tx⟩ := ⟨csl, cge, ccl, cre, cqu, cba, cfe⟩
  by_cases hz : 65536 < tx.size
  · have hv : ckE ⟨sl, ge, cl, re, qu, ba, fe, tx⟩ = 5 := by unfold ckE; rw [if_neg (fun h => h hn), if_pos hz]
    rw [hv]
    exact check_long sl ge cl re qu ba fe tx w hsl hge kge hcl hre hqu hba hfe hz
  · have hv : ckE ⟨sl, ge, cl, re, qu, ba, fe, tx⟩ = (if vdB (bs tx) = false then 11 else 0) := by unfold ckE; rw [if_neg (fun h => h hn), if_neg hz]
    rw [hv]
    cases hv2 : vdB (bs tx) with
    | false => exact check_text_false sl ge cl re qu ba fe tx w hsl hge kge hcl hre hqu hba hfe (by omega) hv2
    | true => exact check_text_true sl ge cl re qu ba fe tx w hsl hge kge hcl hre hqu hba hfe (by omega) hv2
end Go.Proofs.Ytefpabicgefciaa
