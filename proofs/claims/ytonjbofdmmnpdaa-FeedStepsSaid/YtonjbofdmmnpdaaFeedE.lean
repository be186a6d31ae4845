/- The feed: operations begun; New, Activate, Result. -/
import Derived.Test.YtonjbofdmmnpdaaFeedC
namespace Go.Proofs.Ytonjbofdmmnpdaa
open Go.RowKit
set_option linter.unusedVariables false
set_option linter.unusedSimpArgs false
set_option linter.unusedSectionVars false

/-- An operation was begun: its block is new, the feed's own block alone has changed. -/
def Begun (B p cb fb : Nat) (lv : Value) (s : BS) (F' : Fd) (t : TypeId) (oc : Array Value) (w : World) (e : Ending) (w' : World) : Prop :=
  ∃ b, e = .returned (.tuple #[.pointer (some ⟨b, 0, none⟩), .int .i64 0]) ∧ FeedM B w' p cb fb lv s F' ∧ Blk w' b t oc ∧ Ch (fun k => k = fb) w w' ∧ w.heap.size ≤ b

section
variable (B p cb fb : Nat) (lv : Value) (s : BS) (F : Fd) (w : World) (h : FeedM B w p cb fb lv s F)
include h

set_option maxHeartbeats 400000 in
theorem fpush_ok (t v : Int) (ht : 0 ≤ t ∧ t < 16) (hv : F.last < v) (hp : F.pushing = false) : Calls Try.prog 30 #[.pointer (some ⟨fb, 0, none⟩), .int .i64 t, .int .u64 v] w (Begun B p cb fb lv s { F with last := v, pushing := true } 106 (pdCells fb ⟨t, 26, v, 0⟩) w) := by
  have f5 := h.c5
  have f6 := h.c6
  have g5 := h.fd.free 5
  have g6 := h.fd.free 6
  rw [hp] at f6
  have d1 : decide (t < 0) = false := by simp; omega
  have d2 : decide ((16 : Int) ≤ t) = false := by simp; omega
  have d3 : decide (v ≤ F.last) = false := by simp; omega
  have hlt := h.fd.lt
  have Hh := hid h
  clear hp hv h
  go_enter Try.func30, Try.ntmps30
  go_wp2_with fail
  go_ret2
  have hf := ((Hh.out.fd.put 6 (.bool true)).put 5 (.int .u64 v))
  have n0 := not_fp Hh.out.b Hh.out.fd (by decide) (by decide) (by decide)
  have c : Ch (fun k => k = fb) w ((w.setCell ⟨fb, 6, none⟩ (.bool true)).setCell ⟨fb, 5, none⟩ (.int .u64 v)) := ((Ch.refl (fun k => k = fb) w).set (fun _ => rfl) _).set (fun _ => rfl) _
  have c2 := c.alloc (.cells (pdCells fb ⟨t, 26, v, 0⟩) 106)
  refine ⟨_, rfl, ⟨Hh.out.b.ch c2 (fun e => n0 (.inl e.symm)) (fun e => n0 (.inr (.inl e.symm))) (fun k hk e => n0 (.inr (.inr (by rw [← e]; exact hk)))), hf.alloc _, ⟨Hh.out.ok.room, Hh.out.ok.n1, Hh.out.ok.n2⟩, Hh.out.bf⟩, ?_, c2, by simp⟩
  have hb := Blk.new ((w.setCell ⟨fb, 6, none⟩ (.bool true)).setCell ⟨fb, 5, none⟩ (.int .u64 v)) 106 (pdCells fb ⟨t, 26, v, 0⟩)
  simp only [World.size_setCell] at hb
  exact hb

set_option maxHeartbeats 400000 in
theorem frecv_ok (t v : Int) (ht : 0 ≤ t ∧ t < 16) (hp : F.receiving = false) : Calls Try.prog 31 #[.pointer (some ⟨fb, 0, none⟩), .int .i64 t, .int .u64 v] w (Begun B p cb fb lv s { F with receiving := true } 108 (rdCells fb ⟨t, 14, v, 0, 0, false, 0⟩) w) := by
  have f7 := h.c7
  have g7 := h.fd.free 7
  rw [hp] at f7
  have d1 : decide (t < 0) = false := by simp; omega
  have d2 : decide ((16 : Int) ≤ t) = false := by simp; omega
  have hlt := h.fd.lt
  have Hh := hid h
  clear hp h
  go_enter Try.func31, Try.ntmps31
  go_wp2_with fail
  go_ret2
  have hf := Hh.out.fd.put 7 (.bool true)
  have n0 := not_fp Hh.out.b Hh.out.fd (by decide) (by decide) (by decide)
  have c : Ch (fun k => k = fb) w (w.setCell ⟨fb, 7, none⟩ (.bool true)) := (Ch.refl (fun k => k = fb) w).set (fun _ => rfl) _
  have c2 := c.alloc (.cells (rdCells fb ⟨t, 14, v, 0, 0, false, 0⟩) 108)
  refine ⟨_, rfl, ⟨Hh.out.b.ch c2 (fun e => n0 (.inl e.symm)) (fun e => n0 (.inr (.inl e.symm))) (fun k hk e => n0 (.inr (.inr (by rw [← e]; exact hk)))), hf.alloc _, ⟨Hh.out.ok.room, Hh.out.ok.n1, Hh.out.ok.n2⟩, Hh.out.bf⟩, ?_, c2, by simp⟩
  have hb := Blk.new (w.setCell ⟨fb, 7, none⟩ (.bool true)) 108 (rdCells fb ⟨t, 14, v, 0, 0, false, 0⟩)
  simp only [World.size_setCell] at hb
  exact hb

set_option maxHeartbeats 400000 in
theorem fpush_arg (t v : Int) (hv : ¬ (0 ≤ t ∧ t < 16) ∨ v ≤ F.last) : Calls Try.prog 30 #[.pointer (some ⟨fb, 0, none⟩), .int .i64 t, .int .u64 v] w fun e w' => e = .returned (.tuple #[.pointer none, .int .i64 2]) ∧ w = w' := by
  have f5 := h.c5
  by_cases h1 : t < 0
  · have d1 : decide (t < 0) = true := by simpa using h1
    go_enter Try.func30, Try.ntmps30
    go_wp2_with fail
    go_ret2
    exact ⟨rfl, rfl⟩
  · have d1 : decide (t < 0) = false := by simpa using h1
    by_cases h2 : (16 : Int) ≤ t
    · have d2 : decide ((16 : Int) ≤ t) = true := by simpa using h2
      go_enter Try.func30, Try.ntmps30
      go_wp2_with fail
      go_ret2
      exact ⟨rfl, rfl⟩
    · have d2 : decide ((16 : Int) ≤ t) = false := by simpa using h2
      have d3 : decide (v ≤ F.last) = true := by simp; omega
      go_enter Try.func30, Try.ntmps30
      go_wp2_with fail
      go_ret2
      exact ⟨rfl, rfl⟩

set_option maxRecDepth 100000 in
set_option maxHeartbeats 1000000 in
theorem fact_ok (t : Int) (ht : 0 ≤ t ∧ t < 16) (hlen : s.lg.length < 1000000) (hB : B ≤ w.heap.size) (ha : cAct s F = 0) : Calls Try.prog 35 #[.pointer (some ⟨fb, 0, none⟩), .int .i64 t] w fun e w' => e = .returned (.int .i64 0) ∧
    ∃ lv', FeedM B w' p cb fb lv' (s.store t F.first 1) F ∧ Ch (FP p cb lv) w w' ∧ Fresh w lv lv' := by
  have f0 := h.c0
  have f1 := h.c1
  have hn := h.hn
  have hn1 := h.ok.n1
  have hr := h.ok.room
  have d1 : decide (t < 0) = false := by simp; omega
  have d2 : decide ((16 : Int) ≤ t) = false := by simp; omega
  have da : (cAct s F != 0) = false := by rw [bne_eq_false_iff_eq]; exact ha
  have Hh := hid h
  go_enter Try.func35, Try.ntmps35
  go_wp2_with fail
  refine (fact_any B p cb fb lv s F w h).mono ?_
  rintro e w0 ⟨rfl, rfl⟩
  rw [da]
  clear da ha
  go_wp2_with fail
  refine Mix.wp_region_mix (fun _ => True) (fun i => ([0, 0, 0, 0, 0, 0, 0, 0, 0, 0, 2, 0] : List Nat).getD i 0) [0, 1, 2, 3, 4, 5, 6, 7, 8, 9, 10, 11] (by kernel_rfl) (by kernel_rfl) ?_
  repeat (first | (refine Mix.mix_q (by simp only [List.getElem?_toArray, List.getElem?_cons_zero, List.getElem?_cons_succ]; exact rfl) rfl ?_; go_big_quiet_step (fail); refine wpQuiet_nil ?_) | (refine Mix.mix_p (by simp only [List.getElem?_toArray, List.getElem?_cons_zero, List.getElem?_cons_succ]; exact rfl) rfl rfl ?_; go_big_quiet_step (fail); refine wpQuiet_nil ?_))
  refine Mix.mix_e (by simp only [List.getElem?_toArray, List.getElem?_cons_zero, List.getElem?_cons_succ]; exact rfl) rfl fun W hW => ?_
  obtain ⟨n1, rfl⟩ := hW
  go_wp2_with fail
  refine (store_ok B p cb lv s t (F.first : Nat) 1 _ (bank_drew h.b n1) ⟨ht.1, ht.2, by omega, by omega⟩ hlen hB ⟨by decide, by decide⟩).mono ?_
  rintro e w1 ⟨rfl, lv', hb1, hc1, hf1⟩
  have hc1' : Ch (FP p cb lv) w w1 := hc1.ofDrewN
  have nf := not_fp Hh.out.b Hh.out.fd (by decide) (by decide) (by decide)
  go_wp2_with fail
  repeat (first | (refine Mix.mix_q (by simp only [List.getElem?_toArray, List.getElem?_cons_zero, List.getElem?_cons_succ]; exact rfl) rfl ?_; go_big_quiet_step (fail); refine wpQuiet_nil ?_) | (refine Mix.mix_p (by simp only [List.getElem?_toArray, List.getElem?_cons_zero, List.getElem?_cons_succ]; exact rfl) rfl rfl ?_; go_big_quiet_step (fail); refine wpQuiet_nil ?_))
  intro n2
  go_wp2_with fail
  go_ret
  refine ⟨rfl, lv', ⟨bank_drew hb1 n2, ?_, ⟨by show F.first + 4 + F.n ≤ (s.vs.set _ _).length; rw [List.length_set]; exact hr, hn1, Hh.out.ok.n2⟩, Hh.out.bf⟩, hc1'.drewN n2, hf1⟩
  rw [fdc_set (s := s) F.first 1 rfl (by omega) (by omega)]
  exact (hc1'.blk Hh.out.fd nf).drewN n2
set_option maxHeartbeats 400000 in
theorem fact_have (t : Int) (ht : 0 ≤ t ∧ t < 16) (ha : cAct s F ≠ 0) : Calls Try.prog 35 #[.pointer (some ⟨fb, 0, none⟩), .int .i64 t] w fun e w' => e = .returned (.int .i64 9) ∧ w = w' := by
  have d1 : decide (t < 0) = false := by simp; omega
  have d2 : decide ((16 : Int) ≤ t) = false := by simp; omega
  have da : (cAct s F != 0) = true := by rw [bne_iff_ne]; exact ha
  go_enter Try.func35, Try.ntmps35
  go_wp2_with fail
  refine (fact_any B p cb fb lv s F w h).mono ?_
  rintro e w0 ⟨rfl, rfl⟩
  rw [da]
  go_wp2_with fail
  go_ret
  exact ⟨rfl, rfl⟩
end

set_option maxHeartbeats 400000 in
theorem fres_any (fb rb : Nat) (r : Rd) (w : World) (hr : Blk w rb 108 (rdCells fb r)) (hph : r.ph = 0) : Calls Try.prog 34 #[.pointer (some ⟨rb, 0, none⟩)] w fun e w' => e = .returned (.tuple #[.int .u64 r.value, .bool r.lagged, .int .i64 r.err]) ∧ ∃ n, w' = w.drewN n := by
  have r2 := rd_c2 hr
  have r5 := rd_c5 hr
  have r6 := rd_c6 hr
  have r7 := rd_c7 hr
  rw [hph] at r2
  clear hph
  go_enter Try.func34, Try.ntmps34
  go_wp2_with fail
  first | (go_ret3; exact ⟨rfl, 0, rfl⟩) | (go_quiet (fail); go_wp2_with fail; go_ret3; exact ⟨rfl, _, rfl⟩)

def fzero (p first n : Nat) : Array Value := #[.pointer (some ⟨p, 0, none⟩), .int .i64 first, .int .i64 n, .int .u64 0, .int .u64 0, .int .u64 0, .bool false, .bool false]
/-- What New leaves. -/
def FNew (p first n : Nat) (w : World) (e : Ending) (w' : World) : Prop := ∃ fb, e = .returned (.tuple #[.pointer (some ⟨fb, 0, none⟩), .int .i64 0]) ∧ Blk w' fb 98 (fzero p first n) ∧ Ch (fun _ => False) w w' ∧ w.heap.size ≤ fb

set_option maxRecDepth 100000 in
set_option maxHeartbeats 1000000 in
theorem fnew_ok (B p cb : Nat) (lv : Value) (s : BS) (w : World) (first n : Nat) (h : Bank B w p cb lv s.vs s.lg) (h1 : 1 ≤ n) (h2 : n ≤ 64) (h3 : first + 4 + n ≤ s.vs.length) (hz : ∀ j, first ≤ j → j < first + 4 + n → lk s.vs j = 0) :
    Calls Try.prog 25 #[.pointer (some ⟨p, 0, none⟩), .int .i64 first, .int .i64 n] w (FNew p first n w) := by
  have hn := h.hn
  have d0 : decide ((n : Int) < 1) = false := by simp; omega
  have d1 : decide ((64 : Int) < (n : Int)) = false := by simp; omega
  have d2 : decide ((first : Int) < 0) = false := by simp
  have d3 : decide ((s.vs.length : Int) - 4 - (n : Int) < (first : Int)) = false := by simp; omega
  go_enter Try.func25, Try.ntmps25
  go_wp2_with fail
  refine (values_any B p cb lv s w h).mono ?_
  rintro e w1 ⟨gv, rfl, hval, hc1, hgv⟩
  go_wp2_with fail
  go_outline
  go_loop [10, 40] (fun _ i => ∃ j : Nat, j ≤ 4 + n ∧ i = .int .i64 j) (fun _ i => 4 + n - (intOf i).toNat)
  case atStart => exact ⟨0, Nat.zero_le _, rfl⟩
  case round =>
    obtain ⟨j, hj, rfl⟩ := hrel
    by_cases hlt : j < 4 + n
    · have hcell := (hval.cell (first + j)).trans (u64s_getD s.vs (first + j) (by omega))
      rw [hz (first + j) (by omega) (by omega)] at hcell
      have d5 : decide (j < 4 + n) = true := by simpa using hlt
      go_wp2_with fail
      go_round
      case rel => exact ⟨j + 1, by omega, by go_num⟩
      case measure => simp [intOf]; omega
    · go_wp2_with fail
      go_ret2
      exact ⟨_, rfl, Blk.new w1 _ (fzero p first n), (hc1.alloc _), hc1.size⟩
end Go.Proofs.Ytonjbofdmmnpdaa
