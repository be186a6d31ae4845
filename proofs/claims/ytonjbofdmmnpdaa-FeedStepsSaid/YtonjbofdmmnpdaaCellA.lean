/- The bank of cells: what its memory holds, and its small functions. -/
import Derived.Test.YtonjbofdmmnpdaaRows
import Derived.Test.YtonjbofdmmnpdaaLib
import Derived.Test.YtonjbofdmmnpdaaMix
import Derived.BigGuardPart
namespace Go.Proofs.Ytonjbofdmmnpdaa
open Go.RowKit
set_option linter.unusedSimpArgs false

/-- An access. -/
structure Acc where
  t : Int
  c : Int
  k : Int
  o : Int
  n : Int
  s : Bool
def Acc.cells (x : Acc) : List Value := [.int .i64 x.t, .int .i64 x.c, .int .u8 x.k, .int .u64 x.o, .int .u64 x.n, .bool x.s]
def logCells (l : List Acc) : List Value := l.flatMap Acc.cells
def u64s (l : List Int) : Array Value := (l.map (Value.int .u64)).toArray
theorem u64s_get (l : List Int) (i : Nat) (h : i < l.length) : (u64s l)[i]? = some (.int .u64 l[i]) := by simp [u64s, h]
theorem u64s_getD (l : List Int) (i : Nat) (h : i < l.length) : (u64s l)[i]? = some (.int .u64 (lk l i)) := by simp [u64s, lk, h]
theorem u64s_set (l : List Int) (i : Nat) (v : Int) : (u64s l).setIfInBounds i (.int .u64 v) = u64s (l.set i v) := by
  simp [u64s, List.map_set]
theorem logCells_snoc (l : List Acc) (x : Acc) : logCells (l ++ [x]) = logCells l ++ x.cells := by simp [logCells]
theorem logCells_length (l : List Acc) : (logCells l).length = l.length * 6 := by
  induction l with
  | nil => rfl
  | cons x l ih => simp only [logCells, List.flatMap_cons, List.length_append, List.length_cons] at ih ⊢; rw [ih]; simp [Acc.cells]; omega

/-- The bank at block p: its values, its log. -/
structure Bank (B : Nat) (w : World) (p cb : Nat) (lv : Value) (vs : List Int) (lg : List Acc) : Prop where
  hp : Blk w p 88 #[.slice (some ⟨cb, 0, none⟩) vs.length vs.length, lv]
  hc : Blk w cb 94 (u64s vs)
  hl : w.ownsRow B 120 6 lv lg.length (logCells lg)
  hv : ∀ x ∈ vs, 0 ≤ x ∧ x < 18446744073709551616
  hn : vs.length ≤ 4096
  bp : B ≤ p
  bc : B ≤ cb

theorem Try.cells_cell : Try.prog.cellsOf 94 = 1 := by kernel_rfl
theorem Try.infoAcc : (Try.prog.info? 120).map (fun i => (i.zero, i.size, i.bytes)) = some (some (.agg #[.int .i64 0, .int .i64 0, .int .u8 0, .int .u64 0, .int .u64 0, .bool false]), 6, 48) := by kernel_rfl

theorem Bank.ch {B : Nat} {w w' : World} {p cb : Nat} {lv : Value} {vs : List Int} {lg : List Acc} {fp : Nat → Prop} (h : Bank B w p cb lv vs lg) (c : Ch fp w w')
    (h1 : ¬ fp p) (h2 : ¬ fp cb) (h3 : ∀ k, lv.ownBlock = some k → ¬ fp k) : Bank B w' p cb lv vs lg :=
  ⟨c.blk h.hp h1, c.blk h.hc h2, c.own h.hl h3, h.hv, h.hn, h.bp, h.bc⟩

/-- The error of an access. -/
def chk (n : Nat) (t c : Int) : Int := if t < 0 ∨ 16 ≤ t then 2 else if c < 0 ∨ (n : Int) ≤ c then 3 else 0

set_option linter.unusedVariables false
set_option maxHeartbeats 400000 in
theorem check_any (p : Nat) (t c : Int) (n cp : Nat) (a : Option Addr) (w : World) (h0 : w.cell? ⟨p, 0, none⟩ = some (.slice a n cp)) :
    Calls Try.prog 54 #[.pointer (some ⟨p, 0, none⟩), .int .i64 t, .int .i64 c] w fun e w' => e = .returned (.int .i64 (chk n t c)) ∧ w = w' := by
  unfold chk
  by_cases h1 : t < 0
  · go_enter Try.func54, Try.ntmps54
    go_wp2
    go_ret
    exact ⟨by simp, rfl⟩
  · have h1' : 0 ≤ t := by omega
    by_cases h2 : t < 16
    · have h2' : ¬ 16 ≤ t := by omega
      by_cases h3 : c < 0
      · go_enter Try.func54, Try.ntmps54
        go_wp2
        go_ret
        exact ⟨by simp, rfl⟩
      · have h3' : 0 ≤ c := by omega
        by_cases h4 : c < n
        · have h4' : ¬ (n : Int) ≤ c := by omega
          go_enter Try.func54, Try.ntmps54
          go_wp2
          go_ret
          exact ⟨by simp, rfl⟩
        · have h4' : (n : Int) ≤ c := by omega
          go_enter Try.func54, Try.ntmps54
          go_wp2
          go_ret
          exact ⟨by simp, rfl⟩
    · have h2' : 16 ≤ t := by omega
      go_enter Try.func54, Try.ntmps54
      go_wp2
      go_ret
      exact ⟨by simp, rfl⟩

set_option maxHeartbeats 400000 in
theorem check_nil (t c : Int) (w : World) :
    Calls Try.prog 54 #[.pointer none, .int .i64 t, .int .i64 c] w fun e w' => e = .returned (.int .i64 1) ∧ w = w' := by
  go_enter Try.func54, Try.ntmps54
  go_wp2
  go_ret
  exact ⟨rfl, rfl⟩

theorem aload_run (w : World) (a : Addr) (x : Int) (h : w.cell? a = some (.int .u64 x)) : Sem.run Try.prog (callFunc 74 #[.pointer (some a)]) w = .ok (.value (.int .u64 x)) w :=
  run_call_load Try.func74 (by kernel_rfl) (by kernel_rfl) (by kernel_rfl) .u64 (by kernel_rfl) h

set_option maxHeartbeats 400000 in
theorem aload (w : World) (b o : Nat) (x : Int) (h : w.cell? ⟨b, o, none⟩ = some (.int .u64 x)) :
    Calls Try.prog 55 #[.pointer (some ⟨b, o, none⟩)] w fun e w' => e = .returned (.int .u64 x) ∧ w = w' := by
  have hr := aload_run w ⟨b, o, none⟩ x h
  go_enter Try.func55, Try.ntmps55
  go_wp2
  go_ret
  exact ⟨rfl, rfl⟩

set_option maxHeartbeats 400000 in
theorem note_any (B p cb : Nat) (lv : Value) (vs : List Int) (lg : List Acc) (t : Int) (c : Nat) (k o : Int) (s : Bool) (w : World) (h : Bank B w p cb lv vs lg) (hc : c < vs.length) (hlen : lg.length < 1000000) (hB : B ≤ w.heap.size) :
    Calls Try.prog 57 #[.pointer (some ⟨p, 0, none⟩), .int .i64 t, .int .i64 c, .int .u8 k, .int .u64 o, .bool s] w fun e w' => e = .returned (.tuple #[]) ∧
      ∃ lv', Bank B w' p cb lv' vs (lg ++ [⟨t, c, k, o, lk vs c, s⟩]) ∧ Ch (fun b => b = p ∨ lv.ownBlock = some b) w w' ∧ (lv'.ownBlock = lv.ownBlock ∨ ∀ b, lv'.ownBlock = some b → w.heap.size ≤ b) := by
  obtain ⟨i0, hi, hz0, hz1, hz2⟩ := info_parts Try.infoAcc
  obtain ⟨A, cap, rfl, _⟩ := own_slice h.hl
  have hplt := h.hp.lt
  have h0 := h.hp.cell 0
  have h1 := h.hp.cell 1
  have hcell := (h.hc.cell c).trans (u64s_getD vs c hc)
  simp only [List.getElem?_toArray, List.getElem?_cons_zero, List.getElem?_cons_succ] at h0 h1
  go_enter Try.func57, Try.ntmps57
  obtain ⟨S, hS⟩ : ∃ S : Nat → Prop, ∀ k, S k ↔ k < w.heap.size := ⟨_, fun _ => Iff.rfl⟩
  have hSp : Mix.Has S p := (hS p).2 h.hp.lt
  have HS := hid hS
  clear hS
  refine Mix.wp_region_mix S (fun i => ([1, 1, 1, 1, 4, 0, 0, 0, 0, 0, 0, 0, 0, 0, 0, 0, 0, 0, 3, 2, 0, 0, 2] : List Nat).getD i 0) [0, 1, 2, 3, 4, 5, 6, 7, 8, 9, 10, 11, 12, 13, 14, 15, 16, 17, 18, 19, 20, 21, 22] (by kernel_rfl) (by kernel_rfl) ?_
  repeat (first | (refine Mix.mix_q (by simp only [List.getElem?_toArray, List.getElem?_cons_zero, List.getElem?_cons_succ]; exact rfl) rfl ?_; go_big_quiet_step ((go_at_call 55; refine Calls.mono (aload _ _ _ _ (by assumption)) ?_; rintro e w' ⟨rfl, rfl⟩; exact ⟨rfl, _, rfl⟩)); refine wpQuiet_nil ?_) | (refine Mix.mix_p (by simp only [List.getElem?_toArray, List.getElem?_cons_zero, List.getElem?_cons_succ]; exact rfl) rfl rfl ?_; go_big_quiet_step (fail); refine wpQuiet_nil ?_) | (refine Mix.mix_s (by simp only [List.getElem?_toArray, List.getElem?_cons_zero, List.getElem?_cons_succ]; exact rfl) rfl rfl ?_; go_big_quiet_step (fail); refine wpQuiet_nil ?_))
  refine Mix.mix_a (by simp only [List.getElem?_toArray, List.getElem?_cons_zero, List.getElem?_cons_succ]; exact rfl) rfl fun W0 hW0 => ?_
  obtain ⟨n1, rfl⟩ := hW0
  go_wp2_with fail
  refine ⟨fun k hk => Below.heap_alloc _ _ k ((HS.out k).1 hk), Mix.mix_world fun W1 hW1 => ?_⟩
  have cW : Ch (fun _ => False) w W1 := by rw [hW1]; exact Ch.push rfl rfl rfl rfl
  have nW : Blk W1 w.heap.size 120 #[.int .i64 t, .int .i64 c, .int .u8 k, .int .u64 o, .int .u64 (lk vs c), .bool s] := by rw [hW1]; exact Blk.push rfl
  clear hW1
  refine Mix.mix_e (by simp only [List.getElem?_toArray, List.getElem?_cons_zero, List.getElem?_cons_succ]; exact rfl) rfl fun W2 hW2 => ?_
  obtain ⟨n2, rfl⟩ := hW2
  refine wpList_app _ rfl _ _ 79 rfl B 120 i0 _ 6 48 Try.underlying79 hi hz0 hz1 hz2 rfl (by decide) _ _ _ rfl ((cW.drewN n2).own h.hl (fun _ _ => id)) ⟨w.heap.size, 0, none⟩ 1 1 (Acc.cells ⟨t, c, k, o, lk vs c, s⟩) rfl rfl ?c1 ?c2 (by decide) ?c3 ?c4 ?c5 ?_
  case c1 =>
    intro j u hu
    rw [addr_add0, (nW.drewN n2).cell j]
    simpa [Acc.cells] using hu
  case c2 => intro u hu; simp [Acc.cells] at hu; rcases hu with rfl | rfl | rfl | rfl | rfl | rfl <;> rfl
  case c3 => unfold maxLen; omega
  case c4 => omega
  case c5 => have := cW.size; exact Nat.le_trans hB this
  intro v' w' hown hgrow hfresh
  have c1 : Ch (fun b => (Value.slice A lg.length cap).ownBlock = some b) w w' := ((cW.drewN n2).mono (fun _ _ h => h.elim)).grown hgrow (fun k hk _ => hk)
  have hp' : Blk w' p 88 #[.slice (some ⟨cb, 0, none⟩) vs.length vs.length, .slice A lg.length cap] := c1.blk h.hp (h.hp.own h.hl (by decide))
  have hc' : Blk w' cb 94 (u64s vs) := c1.blk h.hc (h.hc.own h.hl (by decide))
  obtain ⟨g, cap', rfl, _, _, hg1, hg2⟩ := own_form hown (by omega)
  have hrow : (Value.slice (some ⟨g, 0, none⟩) (lg.length + 1) cap').ownBlock = (Value.slice A lg.length cap).ownBlock ∨ w.heap.size ≤ g := by
    rcases hfresh with h | h
    · exact .inl h
    · exact .inr (Nat.le_trans cW.size (h g rfl))
  clear cW nW hgrow
  go_wp2_with fail
  have h1' := hp'.cell 1
  have f1' := hp'.free 1
  simp only [List.getElem?_toArray, List.getElem?_cons_zero, List.getElem?_cons_succ] at h1'
  repeat (refine Mix.mix_q (by simp only [List.getElem?_toArray, List.getElem?_cons_zero, List.getElem?_cons_succ]; exact rfl) rfl ?_; go_big_quiet_step (fail); refine wpQuiet_nil ?_)
  refine Mix.mix_e (by simp only [List.getElem?_toArray, List.getElem?_cons_zero, List.getElem?_cons_succ]; exact rfl) rfl fun W4 hW4 => ?_
  obtain ⟨n4, rfl⟩ := hW4
  go_wp2_with fail
  intro n5
  go_end0
  refine ⟨rfl, .slice (some ⟨g, 0, none⟩) (lg.length + 1) cap', ⟨(hp'.drewN n4).put 1 _, ((hc'.drewN n4).far (hc'.ne hp' (by decide)) _), ?_, h.hv, h.hn, h.bp, h.bc⟩, ?_, ?_⟩
  · rw [logCells_snoc, List.length_append]
    exact (Ch.refl (fun b => b = p) _).setCell (fun _ => rfl) _ |>.own hown (fun k hk e => hp'.own hown (by decide) (by rw [hk, e]))
  · have c2 : Ch (fun b => b = p ∨ (Value.slice A lg.length cap).ownBlock = some b) w w' := c1.mono (fun _ _ h => Or.inr h)
    exact ((c2.drewN n4).set (fun _ => .inl rfl) _).drewN n5
  · rcases hrow with h | h
    · exact .inl h
    · refine .inr fun b hb => ?_
      simp [Value.ownBlock] at hb
      omega
end Go.Proofs.Ytonjbofdmmnpdaa
