/- Lists of handles: Index, Contains, Grow, Concat. -/
import Derived.Test.YtokcodeeaneeaaaCellA
import Derived.Test.YtokcodeeaneeaaaSep
import Derived.Test.YtokcodeeaneeaaaMapU64
import Derived.Lib.AppendZerosOnto
import Derived.IntWalk
namespace Go.Proofs.Ytokcodeeaneeaaa
open Go.RowKit
set_option linter.unusedVariables false
set_option linter.unusedSimpArgs false
set_option linter.unusedSectionVars false

/-- Handles that a slice holds. -/
def hvs (hs : List Int) : List Value := hs.map (Value.int .u64)
theorem hvs_at {hs : List Int} {i : Nat} (h : i < hs.length) : (hvs hs)[i]? = some (.int .u64 (lk hs i)) := by simp [hvs, lk, h]
/-- A slice that can be read: its handles. -/
def HsAt (w : World) (v : Value) (hs : List Int) : Prop := ∃ A c, v = .slice A hs.length c ∧ hs.length ≤ c ∧ (0 < hs.length → ∃ b off, A = some ⟨b, off, none⟩ ∧ ∀ i u, (hvs hs)[i]? = some u → w.cell? ⟨b, off + i, none⟩ = some u)
theorem hs_of_own {w : World} {B n : Nat} {v : Value} {hs : List Int} (h : w.ownsRow B 92 1 v n (hvs hs)) : HsAt w v hs := by
  have hl : hs.length = n := by have := h.1; simpa [hvs] using this
  obtain ⟨A, c, hv, hc⟩ := own_slice h
  subst hl
  refine ⟨A, c, hv, hc, fun h0 => ?_⟩
  obtain ⟨g, cap, hv', _, _, _, hg⟩ := own_form h h0
  subst hv'
  injection hv with hA _ _
  subst hA
  refine ⟨g, 0, rfl, fun i u hu => ?_⟩
  have := h.cells (g := g) rfl i u hu
  rw [addr_add0] at this
  rw [Nat.zero_add]; exact this
theorem HsAt.ch {fp : Nat → Prop} {w w' : World} {v : Value} {hs : List Int} (h : HsAt w v hs) (c : Ch fp w w') (hn : ∀ k, v.ownBlock = some k → ¬ fp k) : HsAt w' v hs := by
  obtain ⟨A, cp, hv, hc, hr⟩ := h
  refine ⟨A, cp, hv, hc, fun h0 => ?_⟩
  obtain ⟨b, off, rfl, hr2⟩ := hr h0
  refine ⟨b, off, rfl, fun i u hu => ?_⟩
  have h1 := hr2 i u hu
  exact (c.cell (World.block_lt_of_cell? w _ h1) (hn b (by rw [hv]; rfl))).trans h1
theorem HsAt.keep {w w' : World} {v : Value} {hs : List Int} (h : HsAt w v hs) (c : Ch (fun _ => False) w w') : HsAt w' v hs := h.ch c (fun _ _ => id)
theorem HsAt.drewN {w : World} {v : Value} {hs : List Int} (h : HsAt w v hs) (n : Nat) : HsAt (w.drewN n) v hs := h.keep ((Ch.refl _ w).drewN n)

set_option maxHeartbeats 1000000 in
theorem index_h (v : Value) (hs : List Int) (w : World) (h : HsAt w v hs) (hn : hs.length < 1000000) (x : Int) :
    Calls Try.prog 76 #[v, .int .u64 x] w fun e w' => ∃ r : Int, e = .returned (.int .i64 r) ∧ (0 ≤ r ↔ x ∈ hs) ∧ ∃ k, w' = w.drewN k := by
  obtain ⟨A, cp, rfl, hc, hr⟩ := h
  obtain ⟨n, hnn⟩ : ∃ n, n = hs.length := ⟨_, rfl⟩
  have Hr := hid hr
  have HN := hid hnn
  rw [← hnn] at hc hn ⊢
  clear hr hnn
  go_enter Try.func76, Try.ntmps76
  go_wp2_with fail
  go_loopw [8] (fun i wr => ∃ k : Nat, k ≤ n ∧ i = .int .i64 k ∧ (∀ j, j < k → lk hs j ≠ x) ∧ ∃ d, wr = w.drewN d) (fun i _ => n - (intOf i).toNat)
  case atStart => exact ⟨0, Nat.zero_le _, rfl, fun j hj => absurd hj (Nat.not_lt_zero _), 0, rfl⟩
  case round =>
    obtain ⟨k, hk, rfl, hne, d, rfl⟩ := hrel
    have HNE := hid hne
    clear hne
    by_cases hlt : k < n
    · have hlt' : k < hs.length := by rw [← HN.out]; exact hlt
      obtain ⟨b1, o1, rfl, h1⟩ := Hr.out (by omega)
      have c1 := h1 k _ (hvs_at hlt')
      clear h1
      have d1 : decide ((k : Int) < (n : Int)) = true := decide_eq_true (by omega)
      have d1' : decide (k < n) = true := decide_eq_true hlt
      obtain ⟨y, hy⟩ : ∃ y, y = lk hs k := ⟨_, rfl⟩
      rw [← hy] at c1
      have HL := hid hlt'
      have HY := hid hy
      clear hlt' hy
      by_cases hxy : x = y
      · have HX := hid (show x ∈ hs from by rw [hxy, HY.out]; unfold lk; rw [List.getD_eq_getElem?_getD, List.getElem?_eq_getElem HL.out]; exact List.getElem_mem _)
        have b1 : (x == y) = true := by simp [hxy]
        clear hxy
        go_wp2_with fail
        go_ret
        exact ⟨_, rfl, ⟨fun _ => HX.out, fun _ => by omega⟩, _, rfl⟩
      · have b1 : (x == y) = false := by simp [hxy]
        have HX := hid hxy
        clear hxy
        go_wp2_with fail
        go_roundw
        case rel => exact ⟨k + 1, by omega, by go_num, fun j hj => (by rcases Nat.lt_succ_iff_lt_or_eq.1 hj with e | e; exact HNE.out j e; rw [e]; exact fun c => HX.out (c.symm.trans HY.out.symm)), _, rfl⟩
        case measure => simp [intOf]; omega
    · obtain rfl : k = n := by omega
      have d1 : decide ((k : Int) < (k : Int)) = false := decide_eq_false (by omega)
      have d1' : decide (k < k) = false := decide_eq_false (by omega)
      go_wp2_with fail
      go_ret
      refine ⟨_, rfl, ⟨fun c => absurd c (by decide), fun c => ?_⟩, _, rfl⟩
      obtain ⟨j, hj, e⟩ := List.getElem_of_mem c
      exact absurd (by simp [lk, hj, e]) (HNE.out j (by rw [HN.out]; exact hj))
theorem contains_h (v : Value) (hs : List Int) (w : World) (h : HsAt w v hs) (hn : hs.length < 1000000) (x : Int) (b : Bool) (hb : b = true ↔ x ∈ hs) :
    Calls Try.prog 67 #[v, .int .u64 x] w fun e w' => e = .returned (.bool b) ∧ ∃ k, w' = w.drewN k := by
  go_enter Try.func67, Try.ntmps67
  go_wp2_with fail
  refine (index_h v hs w h hn x).mono ?_
  rintro e w1 ⟨r, rfl, hr, n, rfl⟩
  have hrb : decide (0 ≤ r) = b := by
    cases b with
    | true => exact decide_eq_true (hr.2 (hb.1 rfl))
    | false => exact decide_eq_false (fun c => by have := hb.2 (hr.1 c); cases this)
  clear hr hb h hn
  go_wp2_with fail
  go_ret
  exact ⟨rfl, _, rfl⟩

section
variable {P : Program}
theorem run_app0 (w : World) (t ty e : TypeId) (i : TypeInfo) (ht : P.underlying t = some (.slice e)) (hi : P.info? e = some i) (base : Option Addr) (sLen sCap : Nat) (hle : sLen ≤ sCap) (xb : Option Addr) (xc : Nat) :
    (Builtin.append_ #[t, t] ty #[.slice base sLen sCap, .slice xb 0 xc]).run P w = .ok (.slice base sLen sCap) w := by
  cases base <;> cases xb <;> simp [Builtin.append_, run_underlying ht, sizeOf, typeInfo, hi, hle, Builtin.lenOf, Builtin.firstCells, loadCells, loadCellsFrom, storeCells]
end
/-- A slice of n handles that the call made. -/
def Made (B : Nat) (w : World) (v : Value) (hs : List Int) : Prop := w.ownsRow B 92 1 v hs.length (hvs hs)

set_option maxRecDepth 100000 in
set_option maxHeartbeats 1000000 in
theorem grow_h (n : Nat) (w : World) (hn : n < 1000000) :
    Calls Try.prog 75 #[.slice none 0 0, .int .i64 n] w fun e w' => ∃ v, e = .returned v ∧ Made w.heap.size w' v [] ∧ Ch (fun _ => False) w w' := by
  obtain ⟨i0, hi, hz0, hz1, hz2⟩ := info_parts (show (Try.prog.info? 92).map (fun i => (i.zero, i.size, i.bytes)) = some (some (.int .u64 0), 1, 8) by kernel_rfl)
  have hw0 : IntKind.i64.wrap ((n : Int) - 0) = (n : Int) := by rw [Int.sub_zero]; exact IntWalk.i64_in _ (by omega)
  have hd0 : decide ((n : Int) < 0) = false := decide_eq_false (by omega)
  by_cases h0 : n = 0
  · subst h0
    go_enter Try.func75, Try.ntmps75
    go_wp2_with fail
    go_ret
    exact ⟨_, rfl, World.ownsRow_nil _ _ _ _, Ch.refl _ _⟩
  · have hd1 : decide ((n : Int) > 0) = true := decide_eq_true (by omega)
    have hd2 : decide ((0 : Int) < (n : Int)) = true := decide_eq_true (by omega)
    have hold : (Builtin.firstCells i0.size 0 (.slice none 0 0)).run Try.prog w.drew = .ok ([] : List Value).toArray w.drew := by simp [Builtin.firstCells]
    have hrz := fun ty => Lib.run_append_grow_zeros w 87 3 ty 92 i0 (.int .u64 0) .i64 .i64 Try.underlying87 Try.underlying3 hi hz0 none 0 0 [] hold n (by omega) (by omega) (by omega) (by omega) (by rw [hz2]; omega)
      (growslice_fits (by omega) (by rw [hz2]; omega))
    have hG1 := grownCap_ge w (0 + n) 0 92
    have hG2 := grownCap_le_maxLen w (0 + n) 0 92 (by unfold maxLen; omega)
    obtain ⟨G, hG⟩ : ∃ G, G = grownCap w (0 + n) 0 92 := ⟨_, rfl⟩
    rw [← hG] at hrz hG1 hG2
    have hG63 : G ≤ 9223372036854775807 := by unfold maxLen at hG2; omega
    clear hold hG
    have HG2 := hid hG2
    have HR := hid hrz
    clear hG2 hrz
    go_enter Try.func75, Try.ntmps75
    go_wp2_with (at_builtin; refine Lib.wpList_append_run _ rfl _ _ _ _ rfl _ _ rfl rfl _ _ (HR.out _) ?_)
    go_ret
    refine ⟨_, rfl, ⟨by simp [hvs], .inr ⟨_, _, _, rfl, Nat.le_refl _, Blk.new w.drew _ _, Nat.zero_le _, HG2.out, ?_, by simp [hvs]⟩⟩, ((Ch.refl (fun _ => False) w).drew).alloc _⟩
    simp [Builtin.zeroCells]
    omega
end Go.Proofs.Ytokcodeeaneeaaa
