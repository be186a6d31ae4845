/- The bank of cells: New, Peek, Values, Len. -/
import Derived.Test.YtefpabicgefciaaCellB
namespace Go.Proofs.Ytefpabicgefciaa
open Go.RowKit
set_option linter.unusedSimpArgs false
set_option linter.unusedVariables false

theorem made_u64 (n : Nat) : madeCells #[.int .u64 0] n = u64s (List.replicate n 0) := by
  unfold madeCells u64s
  apply Array.ext
  · simp
  · intro i h1 h2
    simp only [Array.getElem_map, List.map_replicate, List.getElem_toArray, List.getElem_replicate]
    rw [getElem!_pos #[Value.int .u64 0] _ (by simp [Nat.mod_one])]
    simp [Nat.mod_one]

theorem run_make_u64 {P : Program} (t e : TypeId) (i : TypeInfo) (z : Value) (ht : P.underlying t = some (.slice e)) (hi : (P.info? e).map (fun i => (i.zero, i.size, i.bytes)) = some (some z, 1, 8)) (hz : z.cells = #[.int .u64 0])
    (n : Nat) (hn : n ≤ 1000000) (w : World) : (Instr.makeSlice t (.int .i64 (n : Int)) (.int .i64 (n : Int))).run P w = .ok (.slice (some ⟨w.heap.size, 0, none⟩) n n) (w.alloc (.cells (u64s (List.replicate n 0)) e)) := by
  obtain ⟨i, hi, hz0, hz1, hz2⟩ := info_parts hi
  have hr := run_make (P := P) w t e i z ht hi hz0 .i64 .i64 n n (by omega) (Int.le_refl _) (by rw [hz2]; omega) (by omega)
  simp only [Int.toNat_natCast] at hr
  rw [hr, hz1, Nat.mul_one, hz, made_u64]

theorem Try.infoCell : (Try.prog.info? 146).map (fun i => (i.zero, i.size, i.bytes)) = some (some (.agg #[.int .u64 0]), 1, 8) := by kernel_rfl
theorem Try.infoU64 : (Try.prog.info? 27).map (fun i => (i.zero, i.size, i.bytes)) = some (some (.int .u64 0), 1, 8) := by kernel_rfl

def NewBank (B n : Nat) (w : World) (e : Ending) (w' : World) : Prop :=
  ∃ p cb, e = .returned (.tuple #[.pointer (some ⟨p, 0, none⟩), .int .i64 0]) ∧ Bank B w' p cb (.slice none 0 0) (List.replicate n 0) [] ∧ Ch (fun _ => False) w w' ∧ w.heap.size ≤ p ∧ w.heap.size ≤ cb

set_option maxHeartbeats 400000 in
theorem new_ok (B n : Nat) (h1 : 1 ≤ n) (h2 : n ≤ 4096) (w : World) (hB : B ≤ w.heap.size) : Calls Try.prog 12 #[.int .i64 n] w (NewBank B n w) := by
  have hmk := run_make_u64 (P := Try.prog) 89 146 default _ Try.underlying89 Try.infoCell rfl n (by omega)
  go_enter Try.func12, Try.ntmps12
  go_wp2
  go_ret2
  refine ⟨w.heap.size + 1, w.heap.size, rfl, ⟨?_, ?_, World.ownsRow_nil _ _ _ _, ?_, by simpa using h2, by omega, hB⟩, ((Ch.refl _ w).alloc _).alloc _, by omega, Nat.le_refl _⟩
  · rw [List.length_replicate]
    have := Blk.new (w.alloc (.cells (u64s (List.replicate n 0)) 146)) 92 #[.slice (some ⟨w.heap.size, 0, none⟩) n n, .slice none 0 0]
    simpa using this
  · exact (Blk.new w _ _).alloc _
  · intro x hx
    rw [List.eq_of_mem_replicate hx]
    decide

set_option maxHeartbeats 400000 in
theorem new_bad (n : Int) (h : n < 1 ∨ 4096 < n) (w : World) : Calls Try.prog 12 #[.int .i64 n] w fun e w' => e = .returned (.tuple #[.pointer none, .int .i64 2]) ∧ w = w' := by
  rcases h with h | h
  · go_enter Try.func12, Try.ntmps12
    go_wp2
    go_ret2
    exact ⟨rfl, rfl⟩
  · have h' : ¬ n < 1 := by omega
    go_enter Try.func12, Try.ntmps12
    go_wp2
    go_ret2
    exact ⟨rfl, rfl⟩

/-- A slice of words that the call made: a block of its own, full. -/
def Words (B : Nat) (w w' : World) (vs : List Int) (e : Ending) : Prop := ∃ b, e = .returned (.slice (some ⟨b, 0, none⟩) vs.length vs.length) ∧ Blk w' b 27 (u64s vs) ∧ Ch (fun _ => False) w w' ∧ w.heap.size ≤ b

theorem values_fill (vs : List Int) (k : Nat) (h : k < vs.length) : (u64s (vs.take k ++ List.replicate (vs.length - k) 0)).setIfInBounds k (.int .u64 (lk vs k)) = u64s (vs.take (k + 1) ++ List.replicate (vs.length - (k + 1)) 0) := by
  rw [u64s_set]
  congr 1
  apply List.ext_getElem?
  intro i
  rw [List.getElem?_set]
  simp only [List.length_append, List.length_take, List.length_replicate]
  by_cases hi : k = i
  · subst hi
    rw [if_pos rfl, if_pos (by omega), List.getElem?_append_left (by simp; omega), List.getElem?_take, if_pos (by omega), List.getElem?_eq_getElem h]
    simp [lk, h]
  · rw [if_neg hi]
    rcases Nat.lt_or_ge i k with h1 | h1
    · rw [List.getElem?_append_left (by simp; omega), List.getElem?_append_left (by simp; omega), List.getElem?_take, List.getElem?_take, if_pos h1, if_pos (by omega)]
    · rw [List.getElem?_append_right (by simp; omega), List.getElem?_append_right (by simp; omega)]
      simp only [List.length_take, List.getElem?_replicate]
      congr 1
      simp only [eq_iff_iff]
      omega

set_option maxHeartbeats 400000 in
theorem values_any (B p cb : Nat) (lv : Value) (s : BS) (w : World) (h : Bank B w p cb lv s.vs s.lg) :
    Calls Try.prog 25 #[.pointer (some ⟨p, 0, none⟩)] w fun e w' => Words B w w' s.vs e := by
  have h0 := h.hp.cell 0
  have hplt := h.hp.lt
  simp only [List.getElem?_toArray, List.getElem?_cons_zero] at h0
  have hn := h.hn
  have hmk := run_make_u64 (P := Try.prog) 107 27 default _ Try.underlying107 Try.infoU64 rfl s.vs.length (by omega)
  go_enter Try.func25, Try.ntmps25
  go_wp2
  go_loopw [15] (fun i wr => ∃ k : Nat, k ≤ s.vs.length ∧ i = .int .i64 k ∧ Blk wr w.heap.size 27 (u64s (s.vs.take k ++ List.replicate (s.vs.length - k) 0)) ∧ Ch (fun _ => False) w wr) (fun i _ => s.vs.length - (intOf i).toNat)
  case atStart => exact ⟨0, Nat.zero_le _, rfl, by simpa using Blk.new w _ _, (Ch.refl _ w).alloc _⟩
  case round =>
    obtain ⟨k, hk, rfl, hb, hch⟩ := hrel
    have h0' := (hch.cell (p := ⟨p, 0, none⟩) hplt id).trans h0
    by_cases hlt : k < s.vs.length
    · have hcell := ((hch.blk h.hc id).cell k).trans (u64s_getD s.vs k hlt)
      have hold : ∃ u, wr.cell? ⟨w.heap.size, k, none⟩ = some u := by
        rw [hb.cell k]
        refine ⟨_, Array.getElem?_eq_getElem ?_⟩
        simp [u64s]; omega
      obtain ⟨u, hu⟩ := hold
      have hfr := hb.free k
      have Hb := hid hb
      clear hb
      go_wp2_with (go_at_call 40; refine (aload _ _ _ _ hcell).mono ?_; rintro e w' ⟨rfl, rfl⟩)
      go_roundw
      case rel => exact ⟨k + 1, by omega, by go_num, by have := Hb.out.put k (.int .u64 (lk s.vs k)); rw [values_fill _ _ hlt] at this; exact this, hch.set (fun h => absurd h (Nat.lt_irrefl _)) _⟩
      case measure => simp [intOf]; omega
    · have : k = s.vs.length := by omega
      subst this
      go_wp2
      go_ret
      refine ⟨w.heap.size, rfl, by simpa using hb, hch, Nat.le_refl _⟩
end Go.Proofs.Ytefpabicgefciaa
