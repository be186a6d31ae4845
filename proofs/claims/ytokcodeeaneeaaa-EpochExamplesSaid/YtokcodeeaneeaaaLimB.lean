/- Lists of handles: Concat. -/
import Derived.Test.YtokcodeeaneeaaaLimA
namespace Go.Proofs.Ytokcodeeaneeaaa
open Go.RowKit
set_option linter.unusedVariables false
set_option linter.unusedSimpArgs false
set_option linter.unusedSectionVars false

/-- The first k lists. -/
def flat (L : List (List Int)) (k : Nat) : List Int := (L.take k).flatten
theorem flat_succ {L : List (List Int)} {k : Nat} (h : k < L.length) : flat L (k + 1) = flat L k ++ L.getD k [] := by
  unfold flat
  rw [List.take_add_one, List.flatten_append, List.getD_eq_getElem?_getD, List.getElem?_eq_getElem h]
  simp
theorem flat_le (L : List (List Int)) (k : Nat) : (flat L k).length ≤ L.flatten.length := by
  have : L.flatten = flat L k ++ (L.drop k).flatten := by
    unfold flat
    rw [← List.flatten_append, List.take_append_drop]
  rw [this, List.length_append]
  omega
theorem flat_all (L : List (List Int)) : flat L L.length = L.flatten := by unfold flat; rw [List.take_length]

set_option maxRecDepth 100000 in
set_option maxHeartbeats 2000000 in
theorem concat_h (ab ao m mc : Nat) (L : List (List Int)) (V : Nat → Value) (w : World) (hm : m = L.length) (hV : ∀ k, k < m → w.cell? ⟨ab, ao + k, none⟩ = some (V k) ∧ HsAt w (V k) (L.getD k [])) (hT : L.flatten.length < 1000000) (hm1 : m < 1000) :
    Calls Try.prog 66 #[.slice (some ⟨ab, ao, none⟩) m mc] w fun e w' => ∃ v, e = .returned v ∧ Made w.heap.size w' v L.flatten ∧ Ch (fun _ => False) w w' := by
  obtain ⟨i0, hi, hz0, hz1, hz2⟩ := info_parts (show (Try.prog.info? 92).map (fun i => (i.zero, i.size, i.bytes)) = some (some (.int .u64 0), 1, 8) by kernel_rfl)
  have HV := hid hV
  have HM := hid hm
  have HT := hid hT
  clear hV hm hT
  go_enter Try.func66, Try.ntmps66
  go_wp2_with fail
  go_loopw [3, 11] (fun s i wr => ∃ k : Nat, k ≤ m ∧ i = .int .i64 k ∧ s = .int .i64 (flat L k).length ∧ ∃ d, wr = w.drewN d) (fun _ i _ => m - (intOf i).toNat)
  case atStart => exact ⟨0, Nat.zero_le _, rfl, rfl, 0, rfl⟩
  case round =>
    obtain ⟨k, hk, rfl, rfl, d, rfl⟩ := hrel
    by_cases hlt : k < m
    · obtain ⟨c1, A, cp, hv, hcp, _⟩ := HV.out k hlt
      rw [hv] at c1
      have hsu := flat_succ (L := L) (k := k) (by rw [← HM.out]; exact hlt)
      have hle := flat_le L (k + 1)
      have hT := HT.out
      rw [hsu, List.length_append] at hle
      obtain ⟨x, hx⟩ : ∃ x, x = (flat L k).length := ⟨_, rfl⟩
      obtain ⟨y, hy⟩ : ∃ y, y = (L.getD k []).length := ⟨_, rfl⟩
      rw [← hx, ← hy] at hle
      rw [← hy] at c1
      rw [← hx]
      have hrel2 : ((flat L (k + 1)).length : Int) = (x : Int) + (y : Int) := by rw [hsu, List.length_append, ← hx, ← hy]; omega
      have hwr : IntKind.i64.wrap ((x : Int) + (y : Int)) = (x : Int) + (y : Int) := IntWalk.i64_in _ (by omega)
      have d1 : decide ((k : Int) < (m : Int)) = true := decide_eq_true (by omega)
      have d1' : decide (k < m) = true := decide_eq_true hlt
      have d2 : decide ((x : Int) + (y : Int) < 0) = false := decide_eq_false (by omega)
      have HR := hid hrel2
      clear hrel2 hsu hle hT hv hcp hx hy
      go_wp2_with fail
      go_roundw
      case rel => exact ⟨k + 1, by omega, by go_num, by rw [HR.out], _, rfl⟩
      case measure => simp [intOf]; omega
    · obtain rfl : k = m := by omega
      have d1 : decide ((k : Int) < (k : Int)) = false := decide_eq_false (by omega)
      have d1' : decide (k < k) = false := decide_eq_false (by omega)
      have hfl : flat L k = L.flatten := by rw [HM.out, flat_all]
      rw [hfl]
      have HF := hid hfl
      clear hfl
      obtain ⟨n, hn⟩ : ∃ n, n = L.flatten.length := ⟨_, rfl⟩
      rw [← hn]
      have hn1 : n < 1000000 := by rw [hn]; exact HT.out
      have HN := hid hn
      clear hn
      go_wp2_with fail
      refine (grow_h n (w.drewN d) hn1).mono ?_
      rintro e w1 ⟨v1, rfl, hown1, hch1⟩
      obtain ⟨A1, cp1, hv1, _⟩ := own_slice hown1
      subst hv1
      have hch1 : Ch (fun _ => False) w w1 := hch1.ofDrewN
      have HO1 := hid hown1
      have HC1 := hid hch1
      clear hown1 hch1
      go_wp2_with fail
      go_loopw [6, 27] (fun v i wr => ∃ j : Nat, j ≤ k ∧ i = .int .i64 j ∧ Made w.heap.size wr v (flat L j) ∧ Ch (fun _ => False) w wr) (fun _ i _ => k - (intOf i).toNat)
      case atStart => exact ⟨0, Nat.zero_le _, rfl, HO1.out, HC1.out⟩
      case round =>
        obtain ⟨j, hj, rfl, hown, hch⟩ := hrel
        obtain ⟨A0, cp0, hv0, hle0⟩ := own_slice hown
        subst hv0
        by_cases hjl : j < k
        · obtain ⟨c0, hV⟩ := HV.out j hjl
          have hV' := hV.keep hch
          obtain ⟨A, cp, hv, hcp, hrd⟩ := hV'
          have c1 : wr.cell? ⟨ab, ao + j, none⟩ = some (V j) := (hch.cell (World.block_lt_of_cell? w _ c0) id).trans c0
          rw [hv] at c1
          have hsu := flat_succ (L := L) (k := j) (by rw [← HM.out]; exact hjl)
          have hle := flat_le L (j + 1)
          have hT := HT.out
          rw [hsu, List.length_append] at hle
          have hsz : w.heap.size ≤ wr.heap.size := hch.size
          have HSU := hid hsu
          have HOW := hid hown
          have HCH := hid hch
          obtain ⟨x, hx⟩ : ∃ x, x = (flat L j).length := ⟨_, rfl⟩
          obtain ⟨y, hy⟩ : ∃ y, y = (L.getD j []).length := ⟨_, rfl⟩
          rw [← hx, ← hy] at hle
          rw [← hy] at c1 hcp hrd
          rw [← hx] at hle0 ⊢
          have HX := hid hx
          have HY := hid hy
          have HRD := hid hrd
          have d1 : decide ((j : Int) < (k : Int)) = true := decide_eq_true (by omega)
          have d1' : decide (j < k) = true := decide_eq_true hjl
          clear hsu hx hy hown hch hV hv c0 hrd
          have hown1 : wr.ownsRow w.heap.size 92 1 (.slice A0 x cp0) x (hvs (flat L j)) := by have := HOW.out; unfold Made at this; rw [← HX.out] at this; exact this
          have HO2 := hid hown1
          clear hown1
          by_cases hy0 : y = 0
          · subst hy0
            have hrun := fun ty => run_app0 (P := Try.prog) wr 87 ty 92 i0 Try.underlying87 hi A0 x cp0 hle0 A cp
            have HRU := hid hrun
            clear hrun
            go_wp2_with (at_builtin; refine Lib.wpList_append_run _ rfl _ _ _ _ rfl _ _ rfl rfl _ _ (HRU.out _) ?_)
            go_roundw
            case rel =>
              have hnil : L.getD j [] = [] := List.length_eq_zero_iff.1 HY.out.symm
              exact ⟨j + 1, by omega, by go_num, by rw [HSU.out, hnil, List.append_nil]; unfold Made; rw [← HX.out]; exact HO2.out, HCH.out⟩
            case measure => simp [intOf]; omega
          · obtain ⟨b, off, rfl, hrc⟩ := HRD.out (by omega)
            have HRC := hid hrc
            clear hrc
            go_wp2_with (at_builtin; refine wpList_app _ rfl (.tmp 31) (.tmp 32) 87 rfl w.heap.size 92 i0 _ 1 8 Try.underlying87 hi hz0 hz1 hz2 rfl (by decide) _ _ _ rfl HO2.out ⟨b, off, none⟩ y cp (hvs (L.getD j [])) rfl ?c0 ?c1 ?c2 (by omega) ?c3 ?c4 ?c5 ?c6)
            case c0 => unfold hvs; rw [List.length_map, ← HY.out]; omega
            case c1 => intro i u hu; rw [addr_add]; exact HRC.out i u hu
            case c2 => intro u hu; obtain ⟨z, _, rfl⟩ := List.mem_map.1 hu; rfl
            case c3 => unfold maxLen; omega
            case c4 => omega
            case c5 => exact hsz
            case c6 =>
              intro v' w' hown' hgrow hfresh
              have hch' : Ch (fun _ => False) w w' := HCH.out.grown hgrow (fun g hg hlt => (Nat.lt_irrefl _ (Nat.lt_of_lt_of_le hlt (HO2.out.lt g hg).1)).elim)
              go_wp2_with fail
              go_roundw
              case rel =>
                refine ⟨j + 1, by omega, by go_num, ?_, hch'⟩
                unfold Made
                rw [HSU.out, List.length_append, ← HX.out, ← HY.out]
                unfold hvs at hown' ⊢
                rw [List.map_append]
                exact hown'
              case measure => simp [intOf]; omega
        · obtain rfl : j = k := by omega
          have d1 : decide ((j : Int) < (j : Int)) = false := decide_eq_false (by omega)
          have d1' : decide (j < j) = false := decide_eq_false (by omega)
          go_wp2_with fail
          go_ret
          exact ⟨_, rfl, by rw [← HF.out]; exact hown, hch⟩
end Go.Proofs.Ytokcodeeaneeaaa
