/- The reference's bank: what its memory holds, its methods. -/
import Derived.Test.YtonjbofdmmnpdaaConsPlain
namespace Go.Proofs.Ytonjbofdmmnpdaa
open Go.RowKit
set_option linter.unusedSimpArgs false
set_option linter.unusedVariables false

/-- The reference's bank at block p. -/
structure RBank (B : Nat) (w : World) (p vb : Nat) (lv : Value) (vs : List Int) (lg : List Acc) : Prop where
  hp : Blk w p 82 #[.slice (some ⟨vb, 0, none⟩) vs.length vs.length, lv]
  hc : Blk w vb 35 (u64s vs)
  hl : w.ownsRow B 120 6 lv lg.length (logCells lg)
  hn : vs.length ≤ 4096
  bp : B ≤ p
  bc : B ≤ vb
theorem RBank.ch {B : Nat} {w w' : World} {p vb : Nat} {lv : Value} {vs : List Int} {lg : List Acc} {fp : Nat → Prop} (h : RBank B w p vb lv vs lg) (c : Ch fp w w')
    (h1 : ¬ fp p) (h2 : ¬ fp vb) (h3 : ∀ k, lv.ownBlock = some k → ¬ fp k) : RBank B w' p vb lv vs lg :=
  ⟨c.blk h.hp h1, c.blk h.hc h2, c.own h.hl h3, h.hn, h.bp, h.bc⟩
def RStep (B : Nat) (w w' : World) (p vb : Nat) (lv : Value) (s : BS) : Prop := ∃ lv', RBank B w' p vb lv' s.vs s.lg ∧ Ch (FP p vb lv) w w' ∧ Fresh w lv lv'
theorem RStep.refl {B : Nat} {w : World} {p vb : Nat} {lv : Value} {s : BS} (h : RBank B w p vb lv s.vs s.lg) : RStep B w w p vb lv s := ⟨lv, h, Ch.refl _ _, .inl rfl⟩
theorem RStep.below {B : Nat} {w w' : World} {p vb : Nat} {lv : Value} {vs : List Int} {lg : List Acc} {s' : BS} (hs : RStep B w w' p vb lv s') (h : RBank B w p vb lv vs lg) (hB : B ≤ w.heap.size) : Below B w w' := by
  obtain ⟨_, _, hc, _⟩ := hs
  refine hc.below hB (fun j hj => ?_)
  rcases hj with rfl | rfl | hj
  · exact h.bp
  · exact h.bc
  · exact (h.hl.lt j hj).1

set_option maxHeartbeats 400000 in
theorem rnote_any (B p vb : Nat) (lv : Value) (vs : List Int) (lg : List Acc) (t : Int) (c : Nat) (k v : Int) (s : Bool) (w : World) (h : RBank B w p vb lv vs lg) (hc : c < vs.length) (hlen : lg.length < 1000000) (hB : B ≤ w.heap.size) :
    Calls Try.prog 59 #[.pointer (some ⟨p, 0, none⟩), .int .i64 t, .int .i64 c, .int .u8 k, .int .u64 v, .bool s] w fun e w' => e = .returned (.tuple #[]) ∧ RStep B w w' p vb lv ⟨vs.set c v, lg ++ [⟨t, c, k, lk vs c, v, s⟩]⟩ := by
  obtain ⟨i0, hi, hz0, hz1, hz2⟩ := info_parts Try.infoAcc
  obtain ⟨A, cap, rfl, _⟩ := own_slice h.hl
  have hplt := h.hp.lt
  have h0 := h.hp.cell 0
  have h1 := h.hp.cell 1
  have hcell := (h.hc.cell c).trans (u64s_getD vs c hc)
  simp only [List.getElem?_toArray, List.getElem?_cons_zero, List.getElem?_cons_succ] at h0 h1
  obtain ⟨S, hS⟩ : ∃ S : Nat → Prop, ∀ k, S k ↔ k < w.heap.size := ⟨_, fun _ => Iff.rfl⟩
  have hSp : Mix.Has S p := (hS p).2 h.hp.lt
  have HS := hid hS
  clear hS
  go_enter Try.func59, Try.ntmps59
  go_wp2_with fail
  refine Mix.wp_region_mix S (fun i => ([1, 1, 1, 1, 4, 0, 0, 0, 0, 0, 0, 0, 0, 0, 0, 0, 0, 0, 3, 2, 0, 0, 2] : List Nat).getD i 0) [0, 1, 2, 3, 4, 5, 6, 7, 8, 9, 10, 11, 12, 13, 14, 15, 16, 17, 18, 19, 20, 21, 22] (by kernel_rfl) (by kernel_rfl) ?_
  repeat (first | (refine Mix.mix_q (by simp only [List.getElem?_toArray, List.getElem?_cons_zero, List.getElem?_cons_succ]; exact rfl) rfl ?_; go_big_quiet_step (fail); refine wpQuiet_nil ?_) | (refine Mix.mix_p (by simp only [List.getElem?_toArray, List.getElem?_cons_zero, List.getElem?_cons_succ]; exact rfl) rfl rfl ?_; go_big_quiet_step (fail); refine wpQuiet_nil ?_) | (refine Mix.mix_s (by simp only [List.getElem?_toArray, List.getElem?_cons_zero, List.getElem?_cons_succ]; exact rfl) rfl rfl ?_; go_big_quiet_step (fail); refine wpQuiet_nil ?_))
  refine Mix.mix_a (by simp only [List.getElem?_toArray, List.getElem?_cons_zero, List.getElem?_cons_succ]; exact rfl) rfl fun W0 hW0 => ?_
  obtain ⟨n1, rfl⟩ := hW0
  go_wp2_with fail
  refine ⟨fun k hk => Below.heap_alloc _ _ k ((HS.out k).1 hk), Mix.mix_world fun W1 hW1 => ?_⟩
  have cW : Ch (fun _ => False) w W1 := by rw [hW1]; exact Ch.push rfl rfl rfl rfl
  have nW : Blk W1 w.heap.size 120 #[.int .i64 t, .int .i64 c, .int .u8 k, .int .u64 (lk vs c), .int .u64 v, .bool s] := by rw [hW1]; exact Blk.push rfl
  clear hW1
  refine Mix.mix_e (by simp only [List.getElem?_toArray, List.getElem?_cons_zero, List.getElem?_cons_succ]; exact rfl) rfl fun W2 hW2 => ?_
  obtain ⟨n2, rfl⟩ := hW2
  refine wpList_app _ rfl _ _ 79 rfl B 120 i0 _ 6 48 Try.underlying79 hi hz0 hz1 hz2 rfl (by decide) _ _ _ rfl ((cW.drewN n2).own h.hl (fun _ _ => id)) ⟨w.heap.size, 0, none⟩ 1 1 (Acc.cells ⟨t, c, k, lk vs c, v, s⟩) rfl rfl ?c1 ?c2 (by decide) ?c3 ?c4 ?c5 ?_
  case c1 =>
    intro j u hu
    rw [addr_add0, (nW.drewN n2).cell j]
    simpa [Acc.cells] using hu
  case c2 => intro u hu; simp [Acc.cells] at hu; rcases hu with rfl | rfl | rfl | rfl | rfl | rfl <;> rfl
  case c3 => unfold maxLen; omega
  case c4 => omega
  case c5 => have := cW.size; exact Nat.le_trans hB this
  intro v' w' hown hgrow hfresh
  have c1 : Ch (fun b => (Value.slice A lg.length cap).ownBlock = some b) w w' := ((cW.drewN n2).mono (fun _ _ h => h.elim)).grown hgrow (fun k hk _ => hk)
  have hp' : Blk w' p 82 #[.slice (some ⟨vb, 0, none⟩) vs.length vs.length, .slice A lg.length cap] := c1.blk h.hp (h.hp.own h.hl (by decide))
  have hc' : Blk w' vb 35 (u64s vs) := c1.blk h.hc (h.hc.own h.hl (by decide))
  obtain ⟨g, cap', rfl, _, _, hg1, hg2⟩ := own_form hown (by omega)
  have hrow : (Value.slice (some ⟨g, 0, none⟩) (lg.length + 1) cap').ownBlock = (Value.slice A lg.length cap).ownBlock ∨ w.heap.size ≤ g := by
    rcases hfresh with h | h
    · exact .inl h
    · exact .inr (Nat.le_trans cW.size (h g rfl))
  clear cW nW hgrow
  go_wp2_with fail
  have h1' := hp'.cell 1
  have f1' := hp'.free 1
  simp only [List.getElem?_toArray, List.getElem?_cons_zero, List.getElem?_cons_succ] at h1'
  repeat (refine Mix.mix_q (by simp only [List.getElem?_toArray, List.getElem?_cons_zero, List.getElem?_cons_succ]; exact rfl) rfl ?_; go_big_quiet_step (fail); refine wpQuiet_nil ?_)
  refine Mix.mix_e (by simp only [List.getElem?_toArray, List.getElem?_cons_zero, List.getElem?_cons_succ]; exact rfl) rfl fun W4 hW4 => ?_
  obtain ⟨n4, rfl⟩ := hW4
  go_wp2_with fail
  intro n5
  obtain ⟨W5, hW5⟩ : ∃ W5, W5 = (((w'.drewN n4).setCell ⟨p, 1, none⟩ (.slice (some ⟨g, 0, none⟩) (lg.length + 1) cap')).drewN n5) := ⟨_, rfl⟩
  have c5 : Ch (fun b => b = p ∨ (Value.slice A lg.length cap).ownBlock = some b) w W5 := by
    have c2 : Ch (fun b => b = p ∨ (Value.slice A lg.length cap).ownBlock = some b) w w' := c1.mono (fun _ _ h => Or.inr h)
    rw [hW5]
    exact ((c2.drewN n4).set (fun _ => .inl rfl) _).drewN n5
  have hp5 : Blk W5 p 82 #[.slice (some ⟨vb, 0, none⟩) vs.length vs.length, .slice (some ⟨g, 0, none⟩) (lg.length + 1) cap'] := by rw [hW5]; exact (hp'.drewN n4).put 1 _
  have hc5 : Blk W5 vb 35 (u64s vs) := by rw [hW5]; exact ((hc'.drewN n4).far (hc'.ne hp' (by decide)) _)
  have ho5 : W5.ownsRow B 120 6 (.slice (some ⟨g, 0, none⟩) (lg.length + 1) cap') (lg.length + 1) (logCells lg ++ Acc.cells ⟨t, c, k, lk vs c, v, s⟩) := by
    rw [hW5]
    exact (Ch.refl (fun b => b = p) _).setCell (fun _ => rfl) _ |>.own hown (fun k hk e => hp'.own hown (by decide) (by rw [hk, e]))
  have g0 := hp5.cell 0
  simp only [List.getElem?_toArray, List.getElem?_cons_zero] at g0
  have gc := (hc5.cell c).trans (u64s_getD vs c hc)
  have gf := hc5.free c
  rw [← hW5]
  clear hW5 h0 h1 h1' f1' hcell
  go_wp2_with fail
  go_end0
  refine ⟨rfl, .slice (some ⟨g, 0, none⟩) (lg.length + 1) cap', ⟨?_, ?_, ?_, by rw [List.length_set]; exact h.hn, h.bp, h.bc⟩, ?_, ?_⟩
  · rw [List.length_set]; exact hp5.far (hp5.ne hc5 (by decide)) _
  · rw [← u64s_set]; exact hc5.put c _
  · rw [logCells_snoc, List.length_append]
    exact (Ch.refl (fun b => b = vb) _).setCell (fun _ => rfl) _ |>.own ho5 (fun k hk e => hc5.own ho5 (by decide) (by rw [hk, e]))
  · have c6 : Ch (FP p vb (.slice A lg.length cap)) w W5 := c5.mono (fun _ _ h => h.elim .inl (fun h => .inr (.inr h)))
    exact c6.set (fun _ => .inr (.inl rfl)) _
  · rcases hrow with h | h
    · exact .inl h
    · refine .inr fun b hb => ?_
      simp [Value.ownBlock] at hb
      omega

set_option maxHeartbeats 400000 in
theorem rcheck_any (p : Nat) (t c : Int) (n cp : Nat) (a : Option Addr) (w : World) (h0 : w.cell? ⟨p, 0, none⟩ = some (.slice a n cp)) :
    Calls Try.prog 58 #[.pointer (some ⟨p, 0, none⟩), .int .i64 t, .int .i64 c] w fun e w' => e = .returned (.int .i64 (chk n t c)) ∧ w = w' := by
  unfold chk
  by_cases h1 : t < 0
  · go_enter Try.func58, Try.ntmps58
    go_wp2
    go_ret
    exact ⟨by simp [*], rfl⟩
  · have h1' : 0 ≤ t := by omega
    by_cases h2 : t < 16
    · have h2' : ¬ 16 ≤ t := by omega
      by_cases h3 : c < 0
      · go_enter Try.func58, Try.ntmps58
        go_wp2
        go_ret
        exact ⟨by simp [*], rfl⟩
      · have h3' : 0 ≤ c := by omega
        by_cases h4 : c < n
        · have h4' : ¬ (n : Int) ≤ c := by omega
          go_enter Try.func58, Try.ntmps58
          go_wp2
          go_ret
          exact ⟨by simp [*], rfl⟩
        · have h4' : (n : Int) ≤ c := by omega
          go_enter Try.func58, Try.ntmps58
          go_wp2
          go_ret
          exact ⟨by simp [*], rfl⟩
    · have h2' : 16 ≤ t := by omega
      go_enter Try.func58, Try.ntmps58
      go_wp2
      go_ret
      exact ⟨by simp [*], rfl⟩


set_option maxHeartbeats 400000 in
theorem rload_bad (B p vb : Nat) (lv : Value) (s : BS) (t c : Int) (w : World) (h : RBank B w p vb lv s.vs s.lg) (hlen : s.lg.length < 1000000) (hB : B ≤ w.heap.size) (hk : ¬ s.fine t c) : Calls Try.prog 68 #[.pointer (some ⟨p, 0, none⟩), .int .i64 t, .int .i64 c] w fun e w' => e = .returned (.tuple #[.int .u64 0, .int .i64 (chk s.vs.length t c)]) ∧ RStep B w w' p vb lv s := by
  have h0 := h.hp.cell 0
  simp only [List.getElem?_toArray, List.getElem?_cons_zero] at h0
  have hb : (chk s.vs.length t c != 0) = true := by rw [bne_iff_ne]; exact chk_not hk
  go_enter Try.func68, Try.ntmps68
  go_wp2_with (go_at_call 58; refine (rcheck_any _ _ _ _ _ _ _ h0).mono ?_; rintro e w' ⟨rfl, rfl⟩)
  go_ret2
  exact ⟨rfl, RStep.refl h⟩

set_option maxHeartbeats 400000 in
theorem rload_ok (B p vb : Nat) (lv : Value) (s : BS) (t c : Int) (w : World) (h : RBank B w p vb lv s.vs s.lg) (hlen : s.lg.length < 1000000) (hB : B ≤ w.heap.size) (hk : s.fine t c) : Calls Try.prog 68 #[.pointer (some ⟨p, 0, none⟩), .int .i64 t, .int .i64 c] w fun e w' => e = .returned (.tuple #[.int .u64 (lk s.vs c.toNat), .int .i64 0]) ∧ RStep B w w' p vb lv (s.load t c) := by
  have h0 := h.hp.cell 0
  simp only [List.getElem?_toArray, List.getElem?_cons_zero] at h0
  have hb : (chk s.vs.length t c != 0) = false := by rw [chk_fine hk]; rfl
  obtain ⟨_, _, hc0, hc1⟩ := hk
  obtain ⟨c, rfl⟩ := Int.eq_ofNat_of_zero_le hc0
  try simp only [Int.toNat_natCast]
  have hcl : c < s.vs.length := by omega
  have hcell := (h.hc.cell c).trans (u64s_getD s.vs c hcl)
  go_enter Try.func68, Try.ntmps68
  go_wp2_with (go_at_call 58; refine (rcheck_any _ _ _ _ _ _ _ h0).mono ?_; rintro e w' ⟨rfl, rfl⟩)
  go_at_call 59
  refine (rnote_any B p vb lv s.vs s.lg t c 1 _ false _ h hcl hlen hB).mono ?_
  rintro e w' ⟨rfl, hs0⟩
  have hs := hs0
  obtain ⟨lv', hb', hc', hf'⟩ := hs
  have h0' := hb'.hp.cell 0
  simp only [List.getElem?_toArray, List.getElem?_cons_zero, List.length_set] at h0'
  have hcell' := (hb'.hc.cell c).trans (u64s_getD _ c (by rw [List.length_set]; exact hcl))
  simp only [lk_set _ hcl] at hcell'
  clear hb' hc' hf' h0 hcell
  go_wp2_with fail
  go_ret2
  refine ⟨rfl, ?_⟩
  have hs1 := hs0
  rw [set_self _ _ hcl] at hs1
  simpa only [BS.load, BS.log, Int.toNat_natCast] using hs1

set_option maxHeartbeats 400000 in
theorem rstore_bad (B p vb : Nat) (lv : Value) (s : BS) (t c : Int) (v : Int) (w : World) (h : RBank B w p vb lv s.vs s.lg) (hlen : s.lg.length < 1000000) (hB : B ≤ w.heap.size) (hk : ¬ s.fine t c) : Calls Try.prog 23 #[.pointer (some ⟨p, 0, none⟩), .int .i64 t, .int .i64 c, .int .u64 v] w fun e w' => e = .returned (.int .i64 (chk s.vs.length t c)) ∧ RStep B w w' p vb lv s := by
  have h0 := h.hp.cell 0
  simp only [List.getElem?_toArray, List.getElem?_cons_zero] at h0
  have hb : (chk s.vs.length t c != 0) = true := by rw [bne_iff_ne]; exact chk_not hk
  go_enter Try.func23, Try.ntmps23
  go_wp2_with (go_at_call 58; refine (rcheck_any _ _ _ _ _ _ _ h0).mono ?_; rintro e w' ⟨rfl, rfl⟩)
  go_ret
  exact ⟨rfl, RStep.refl h⟩

set_option maxHeartbeats 400000 in
theorem rstore_ok (B p vb : Nat) (lv : Value) (s : BS) (t c : Int) (v : Int) (w : World) (h : RBank B w p vb lv s.vs s.lg) (hlen : s.lg.length < 1000000) (hB : B ≤ w.heap.size) (hk : s.fine t c) : Calls Try.prog 23 #[.pointer (some ⟨p, 0, none⟩), .int .i64 t, .int .i64 c, .int .u64 v] w fun e w' => e = .returned (.int .i64 0) ∧ RStep B w w' p vb lv (s.store t c v) := by
  have h0 := h.hp.cell 0
  simp only [List.getElem?_toArray, List.getElem?_cons_zero] at h0
  have hb : (chk s.vs.length t c != 0) = false := by rw [chk_fine hk]; rfl
  obtain ⟨_, _, hc0, hc1⟩ := hk
  obtain ⟨c, rfl⟩ := Int.eq_ofNat_of_zero_le hc0
  try simp only [Int.toNat_natCast]
  have hcl : c < s.vs.length := by omega
  have hcell := (h.hc.cell c).trans (u64s_getD s.vs c hcl)
  go_enter Try.func23, Try.ntmps23
  go_wp2_with (go_at_call 58; refine (rcheck_any _ _ _ _ _ _ _ h0).mono ?_; rintro e w' ⟨rfl, rfl⟩)
  go_at_call 59
  refine (rnote_any B p vb lv s.vs s.lg t c 2 v false _ h hcl hlen hB).mono ?_
  rintro e w' ⟨rfl, hs0⟩
  go_wp2_with fail
  go_ret
  refine ⟨rfl, ?_⟩
  simpa only [BS.store, BS.setlog, Int.toNat_natCast] using hs0

set_option maxHeartbeats 400000 in
theorem rswap_bad (B p vb : Nat) (lv : Value) (s : BS) (t c : Int) (v : Int) (w : World) (h : RBank B w p vb lv s.vs s.lg) (hlen : s.lg.length < 1000000) (hB : B ≤ w.heap.size) (hk : ¬ s.fine t c) : Calls Try.prog 73 #[.pointer (some ⟨p, 0, none⟩), .int .i64 t, .int .i64 c, .int .u64 v] w fun e w' => e = .returned (.tuple #[.int .u64 0, .int .i64 (chk s.vs.length t c)]) ∧ RStep B w w' p vb lv s := by
  have h0 := h.hp.cell 0
  simp only [List.getElem?_toArray, List.getElem?_cons_zero] at h0
  have hb : (chk s.vs.length t c != 0) = true := by rw [bne_iff_ne]; exact chk_not hk
  go_enter Try.func73, Try.ntmps73
  go_wp2_with (go_at_call 58; refine (rcheck_any _ _ _ _ _ _ _ h0).mono ?_; rintro e w' ⟨rfl, rfl⟩)
  go_ret2
  exact ⟨rfl, RStep.refl h⟩

set_option maxHeartbeats 400000 in
theorem rswap_ok (B p vb : Nat) (lv : Value) (s : BS) (t c : Int) (v : Int) (w : World) (h : RBank B w p vb lv s.vs s.lg) (hlen : s.lg.length < 1000000) (hB : B ≤ w.heap.size) (hk : s.fine t c) : Calls Try.prog 73 #[.pointer (some ⟨p, 0, none⟩), .int .i64 t, .int .i64 c, .int .u64 v] w fun e w' => e = .returned (.tuple #[.int .u64 (lk s.vs c.toNat), .int .i64 0]) ∧ RStep B w w' p vb lv (s.swap t c v) := by
  have h0 := h.hp.cell 0
  simp only [List.getElem?_toArray, List.getElem?_cons_zero] at h0
  have hb : (chk s.vs.length t c != 0) = false := by rw [chk_fine hk]; rfl
  obtain ⟨_, _, hc0, hc1⟩ := hk
  obtain ⟨c, rfl⟩ := Int.eq_ofNat_of_zero_le hc0
  try simp only [Int.toNat_natCast]
  have hcl : c < s.vs.length := by omega
  have hcell := (h.hc.cell c).trans (u64s_getD s.vs c hcl)
  go_enter Try.func73, Try.ntmps73
  go_wp2_with (go_at_call 58; refine (rcheck_any _ _ _ _ _ _ _ h0).mono ?_; rintro e w' ⟨rfl, rfl⟩)
  go_at_call 59
  refine (rnote_any B p vb lv s.vs s.lg t c 4 v false _ h hcl hlen hB).mono ?_
  rintro e w' ⟨rfl, hs0⟩
  go_wp2_with fail
  go_ret2
  refine ⟨rfl, ?_⟩
  simpa only [BS.swap, BS.setlog, Int.toNat_natCast] using hs0

set_option maxHeartbeats 400000 in
theorem rcas_bad (B p vb : Nat) (lv : Value) (s : BS) (t c : Int) (o v : Int) (w : World) (h : RBank B w p vb lv s.vs s.lg) (hlen : s.lg.length < 1000000) (hB : B ≤ w.heap.size) (hk : ¬ s.fine t c) : Calls Try.prog 69 #[.pointer (some ⟨p, 0, none⟩), .int .i64 t, .int .i64 c, .int .u64 o, .int .u64 v] w fun e w' => e = .returned (.tuple #[.bool false, .int .i64 (chk s.vs.length t c)]) ∧ RStep B w w' p vb lv s := by
  have h0 := h.hp.cell 0
  simp only [List.getElem?_toArray, List.getElem?_cons_zero] at h0
  have hb : (chk s.vs.length t c != 0) = true := by rw [bne_iff_ne]; exact chk_not hk
  go_enter Try.func69, Try.ntmps69
  go_wp2_with (go_at_call 58; refine (rcheck_any _ _ _ _ _ _ _ h0).mono ?_; rintro e w' ⟨rfl, rfl⟩)
  go_ret2
  exact ⟨rfl, RStep.refl h⟩

set_option maxHeartbeats 400000 in
theorem rcas_ok1 (B p vb : Nat) (lv : Value) (s : BS) (t c : Int) (o v : Int) (w : World) (h : RBank B w p vb lv s.vs s.lg) (hlen : s.lg.length < 1000000) (hB : B ≤ w.heap.size) (hk : s.fine t c) (ho : lk s.vs c.toNat = o) : Calls Try.prog 69 #[.pointer (some ⟨p, 0, none⟩), .int .i64 t, .int .i64 c, .int .u64 o, .int .u64 v] w fun e w' => e = .returned (.tuple #[.bool true, .int .i64 0]) ∧ RStep B w w' p vb lv (s.cas t c o v) := by
  have h0 := h.hp.cell 0
  simp only [List.getElem?_toArray, List.getElem?_cons_zero] at h0
  have hb : (chk s.vs.length t c != 0) = false := by rw [chk_fine hk]; rfl
  obtain ⟨_, _, hc0, hc1⟩ := hk
  obtain ⟨c, rfl⟩ := Int.eq_ofNat_of_zero_le hc0
  try simp only [Int.toNat_natCast]
  have hcl : c < s.vs.length := by omega
  have hcell := (h.hc.cell c).trans (u64s_getD s.vs c hcl)
  rw [Int.toNat_natCast] at ho
  have ho' : (lk s.vs c != o) = false := by simpa using ho
  have Ho := hid ho
  clear ho
  go_enter Try.func69, Try.ntmps69
  go_wp2_with (go_at_call 58; refine (rcheck_any _ _ _ _ _ _ _ h0).mono ?_; rintro e w' ⟨rfl, rfl⟩)
  go_at_call 59
  refine (rnote_any B p vb lv s.vs s.lg t c 5 v true _ h hcl hlen hB).mono ?_
  rintro e w' ⟨rfl, hs0⟩
  go_wp2_with fail
  go_ret2
  refine ⟨rfl, ?_⟩
  simpa only [BS.cas, Ho.out, if_true, BS.setlog, Int.toNat_natCast] using hs0

set_option maxHeartbeats 400000 in
theorem rcas_ok0 (B p vb : Nat) (lv : Value) (s : BS) (t c : Int) (o v : Int) (w : World) (h : RBank B w p vb lv s.vs s.lg) (hlen : s.lg.length < 1000000) (hB : B ≤ w.heap.size) (hk : s.fine t c) (ho : lk s.vs c.toNat ≠ o) : Calls Try.prog 69 #[.pointer (some ⟨p, 0, none⟩), .int .i64 t, .int .i64 c, .int .u64 o, .int .u64 v] w fun e w' => e = .returned (.tuple #[.bool false, .int .i64 0]) ∧ RStep B w w' p vb lv (s.cas t c o v) := by
  have h0 := h.hp.cell 0
  simp only [List.getElem?_toArray, List.getElem?_cons_zero] at h0
  have hb : (chk s.vs.length t c != 0) = false := by rw [chk_fine hk]; rfl
  obtain ⟨_, _, hc0, hc1⟩ := hk
  obtain ⟨c, rfl⟩ := Int.eq_ofNat_of_zero_le hc0
  try simp only [Int.toNat_natCast]
  have hcl : c < s.vs.length := by omega
  have hcell := (h.hc.cell c).trans (u64s_getD s.vs c hcl)
  rw [Int.toNat_natCast] at ho
  have ho' : (lk s.vs c != o) = true := by simpa using ho
  go_enter Try.func69, Try.ntmps69
  go_wp2_with (go_at_call 58; refine (rcheck_any _ _ _ _ _ _ _ h0).mono ?_; rintro e w' ⟨rfl, rfl⟩)
  go_at_call 59
  refine (rnote_any B p vb lv s.vs s.lg t c 5 _ false _ h hcl hlen hB).mono ?_
  rintro e w' ⟨rfl, hs0⟩
  go_wp2_with fail
  go_ret2
  refine ⟨rfl, ?_⟩
  have hs1 := hs0
  rw [set_self _ _ hcl] at hs1
  simpa only [BS.cas, Int.toNat_natCast, if_neg ho, BS.log] using hs1
end Go.Proofs.Ytonjbofdmmnpdaa
