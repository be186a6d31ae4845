/- The feed: the steps of a push. -/
import Derived.Test.YtonjbofdmmnpdaaFeedA
namespace Go.Proofs.Ytonjbofdmmnpdaa
open Go.RowKit
set_option linter.unusedVariables false
set_option linter.unusedSimpArgs false
set_option linter.unusedSectionVars false

/-- What a step of a push leaves. -/
def PRes (B p cb fb qb : Nat) (lv : Value) (F : Fd) (q : Pd) (o : BS × Int × Int) (w : World) (e : Ending) (w' : World) : Prop :=
  e = .returned (.tuple #[.int .u8 q.ph, .bool (o.2.1 == 0)]) ∧ ∃ lv', FeedM B w' p cb fb lv' o.1 (F.psh (o.2.1 != 0)) ∧ Blk w' qb 106 (pdCells fb (q.next o)) ∧ Ch (fun b => FP p cb lv b ∨ b = fb ∨ b = qb) w w' ∧ Fresh w lv lv'

theorem not_fp {B p cb g : Nat} {lv : Value} {vs : List Int} {lg : List Acc} {w : World} {t : TypeId} {cs : Array Value} (h : Bank B w p cb lv vs lg) (hg : Blk w g t cs) (h1 : t ≠ 88) (h2 : t ≠ 94) (h3 : t ≠ 120) : ¬ FP p cb lv g := by
  rintro (e | e | e)
  · exact hg.ne h.hp h1 e
  · exact hg.ne h.hc h2 e
  · exact hg.own h.hl h3 e

theorem fdCells_eq {p : Nat} {s s' : BS} {F : Fd} (h1 : cHead s' F = cHead s F) (h2 : cTail s' F = cTail s F) : fdCells p s' F = fdCells p s F := by unfold fdCells; rw [h1, h2]

theorem fdc_set {p : Nat} {s s' : BS} {F : Fd} (c : Nat) (v : Int) (hv : s'.vs = s.vs.set c v) (h2 : c ≠ F.first + 2) (h3 : c ≠ F.first + 3) : fdCells p s' F = fdCells p s F := by
  unfold fdCells cHead cTail
  rw [hv, lk_set_ne _ h2, lk_set_ne _ h3]
/-- A step's end: the phase and the mark are stored. -/
theorem pres_close {B p cb fb qb : Nat} {lv lv' : Value} {s s' : BS} {F : Fd} {q : Pd} {nx l : Int} {w w1 w' : World} (n : Nat) (h : FeedM B w p cb fb lv s F) (hb1 : Bank B w1 p cb lv' s'.vs s'.lg) (hc1 : Ch (fun b => FP p cb lv b ∨ b = fb ∨ b = qb) w w1) (hf1 : Fresh w lv lv')
    (hfd : Blk w1 fb 98 (fdCells p s' F)) (hq : Blk w1 qb 106 (pdCells fb ⟨q.t, q.ph, q.p, l⟩)) (hl : s'.vs.length = s.vs.length)
    (hw : w' = (((w1.drewN n).setCell ⟨qb, 2, none⟩ (.int .u8 nx)).setCell ⟨fb, 6, none⟩ (.bool (nx != 0)))) :
    PRes B p cb fb qb lv F q (s', nx, l) w (.returned (.tuple #[.int .u8 q.ph, .bool (nx == 0)])) w' := by
  subst hw
  have hne : fb ≠ qb := hfd.ne hq (by decide)
  have n1 := not_fp hb1 hfd (by decide) (by decide) (by decide)
  have n2 := not_fp hb1 hq (by decide) (by decide) (by decide)
  have c2 : Ch (fun b => b = fb ∨ b = qb) w1 (((w1.drewN n).setCell ⟨qb, 2, none⟩ (.int .u8 nx)).setCell ⟨fb, 6, none⟩ (.bool (nx != 0))) :=
    (((Ch.refl _ w1).drewN n).set (fun _ => .inr rfl) _).set (fun _ => .inl rfl) _
  refine ⟨rfl, lv', ⟨?_, ?_, ⟨by rw [hl]; exact h.ok.room, h.ok.n1, h.ok.n2⟩, h.bf⟩, ?_, ?_, hf1⟩
  · refine hb1.ch c2 ?_ ?_ ?_
    · rintro (e | e)
      · exact n1 (.inl e.symm)
      · exact n2 (.inl e.symm)
    · rintro (e | e)
      · exact n1 (.inr (.inl e.symm))
      · exact n2 (.inr (.inl e.symm))
    · rintro k hk (e | e)
      · exact n1 (.inr (.inr (by rw [← e]; exact hk)))
      · exact n2 (.inr (.inr (by rw [← e]; exact hk)))
  · exact ((hfd.drewN n).far (p := ⟨qb, 2, none⟩) hne _).put 6 _
  · exact ((hq.drewN n).put 2 (.int .u8 nx)).far (p := ⟨fb, 6, none⟩) (Ne.symm hne) (.bool (nx != 0))
  · exact hc1.trans c2 (fun _ _ h => .inr h)

theorem bank_drew {B : Nat} {w : World} {p cb : Nat} {lv : Value} {vs : List Int} {lg : List Acc} (h : Bank B w p cb lv vs lg) (n : Nat) : Bank B (w.drewN n) p cb lv vs lg := h.ch ((Ch.refl (fun _ => False) w).drewN n) id id (fun _ _ => id)

theorem after_bank {B p cb fb qb : Nat} {lv : Value} {vs : List Int} {lg : List Acc} {s' : BS} {w w1 : World} {n : Nat} {t : TypeId} {fc cs : Array Value} (h : Bank B w p cb lv vs lg) (hfd : Blk w fb 98 fc) (hq : Blk w qb t cs) (hs : BStep B (w.drewN n) w1 p cb lv s') (h1 : t ≠ 88 := by decide) (h2 : t ≠ 94 := by decide) (h3 : t ≠ 120 := by decide) :
    ∃ lv', Bank B w1 p cb lv' s'.vs s'.lg ∧ Ch (FP p cb lv) w w1 ∧ Fresh w lv lv' ∧ Blk w1 fb 98 fc ∧ Blk w1 qb t cs := by
  obtain ⟨lv', hb, hc, hf⟩ := hs
  have c1 : Ch (FP p cb lv) w w1 := hc.ofDrewN
  exact ⟨lv', hb, c1, hf, c1.blk hfd (not_fp h hfd (by decide) (by decide) (by decide)), c1.blk hq (not_fp h hq h1 h2 h3)⟩

section
variable (B p cb fb qb : Nat) (lv : Value) (s : BS) (F : Fd) (q : Pd) (w : World) (h : FeedM B w p cb fb lv s F) (hq : Blk w qb 106 (pdCells fb q)) (ht : 0 ≤ q.t ∧ q.t < 16) (hlen : s.lg.length < 1000000) (hB : B ≤ w.heap.size) (hp : 0 ≤ q.p ∧ q.p < 18446744073709551616)
include h hq ht hlen hB hp

set_option maxRecDepth 100000 in
set_option maxHeartbeats 1000000 in
theorem pstep26a (hph : q.ph = 26) (hc : cAct s F = 0) : Calls Try.prog 32 #[.pointer (some ⟨qb, 0, none⟩)] w (PRes B p cb fb qb lv F q (pstep s F q) w) := by
  have he : pstep s F q = (s.load q.t F.first, 0, q.l) := by unfold pstep; rw [if_pos hph, if_pos hc]
  rw [he]
  have f0 := h.c0
  have f1 := h.c1
  have f2 := h.c2
  have f4 := h.c4
  have g4 := h.fd.free 4
  have q0 := pd_c0 hq
  have q1 := pd_c1 hq
  have q2 := pd_c2 hq
  have q3 := pd_c3 hq
  have q4 := pd_c4 hq
  have hn := h.hn
  have hn1 := h.ok.n1
  have hr := h.ok.room
  have hne0 := h.fd.ne hq (by decide)
  rw [hph] at q2
  have hv : (lk s.vs F.first != 0) = false := by rw [bne_eq_false_iff_eq]; exact hc
  clear hc
  have Hph := hid hph
  have Hh := hid h
  clear he hph
  go_enter Try.func32, Try.ntmps32
  go_wp2_with fail
  refine Mix.wp_region_mix (fun _ => True) (fun i => ([0, 0, 0, 0, 0, 0, 0, 0, 0, 0, 0, 0, 0, 2, 0, 0, 0, 0, 0] : List Nat).getD i 0) [0, 1, 2, 3, 4, 5, 6, 7, 8, 9, 10, 11, 12, 13, 14, 15, 16, 17, 18] (by kernel_rfl) (by kernel_rfl) ?_
  repeat (first | (refine Mix.mix_q (by simp only [List.getElem?_toArray, List.getElem?_cons_zero, List.getElem?_cons_succ]; exact rfl) rfl ?_; go_big_quiet_step (fail); refine wpQuiet_nil ?_) | (refine Mix.mix_p (by simp only [List.getElem?_toArray, List.getElem?_cons_zero, List.getElem?_cons_succ]; exact rfl) rfl rfl ?_; go_big_quiet_step (fail); refine wpQuiet_nil ?_))
  refine Mix.mix_e (by simp only [List.getElem?_toArray, List.getElem?_cons_zero, List.getElem?_cons_succ]; exact rfl) rfl fun W hW => ?_
  obtain ⟨n1, rfl⟩ := hW
  go_wp2_with fail
  refine (load_ok B p cb lv s q.t (F.first : Nat) _ (bank_drew h.b n1) ⟨ht.1, ht.2, by omega, by omega⟩ hlen hB).mono ?_
  rintro e w1 ⟨rfl, hs1⟩
  obtain ⟨lv', hb1, hc1, hf1, hfd, hqd⟩ := after_bank h.b h.fd hq hs1
  have hne := hfd.ne hqd (by decide)
  have a0 : w1.cell? ⟨qb, 0, none⟩ = some (.pointer (some ⟨fb, 0, none⟩)) := hqd.cell 0
  have a2 : w1.cell? ⟨qb, 2, none⟩ = some (.int .u8 q.ph) := hqd.cell 2
  have a4 : w1.cell? ⟨qb, 4, none⟩ = some (.int .u64 q.l) := hqd.cell 4
  have b2 : w1.cell? ⟨fb, 2, none⟩ = some (.int .i64 F.n) := hfd.cell 2
  have b4 : w1.cell? ⟨fb, 4, none⟩ = some (.int .u64 (cTail s F)) := hfd.cell 4
  have b6 : w1.cell? ⟨fb, 6, none⟩ = some (.bool F.pushing) := hfd.cell 6
  have x6 := hfd.free 6
  have y2 := hqd.free 2
  have y4 := hqd.free 4
  have Hc1 := hid hc1
  have Hfd := hid hfd
  have Hqd := hid hqd
  have Hs1 := hid hs1
  have Hf1 := hid hf1
  have Hb1 := hid hb1
  clear f0 f1 f2 f4 g4 q0 q1 q2 q3 q4 hc1 hfd hqd hs1 hf1 hb1
  rw [Int.toNat_natCast]
  go_wp2_with fail
  repeat (first | (refine Mix.mix_q (by simp only [List.getElem?_toArray, List.getElem?_cons_zero, List.getElem?_cons_succ]; exact rfl) rfl ?_; go_big_quiet_step (fail); refine wpQuiet_nil ?_) | (refine Mix.mix_p (by simp only [List.getElem?_toArray, List.getElem?_cons_zero, List.getElem?_cons_succ]; exact rfl) rfl rfl ?_; go_big_quiet_step (fail); refine wpQuiet_nil ?_))
  intro n2
  go_wp2_with fail
  go_ret2
  rw [← Hph.out]
  exact pres_close (n2) Hh.out Hb1.out (Hc1.out.mono fun _ _ h => .inl h) Hf1.out Hfd.out Hqd.out rfl rfl

set_option maxRecDepth 100000 in
set_option maxHeartbeats 1000000 in
theorem pstep26b (hph : q.ph = 26) (hc : cAct s F ≠ 0) : Calls Try.prog 32 #[.pointer (some ⟨qb, 0, none⟩)] w (PRes B p cb fb qb lv F q (pstep s F q) w) := by
  have he : pstep s F q = (s.load q.t F.first, 27, q.l) := by unfold pstep; rw [if_pos hph, if_neg hc]
  rw [he]
  have f0 := h.c0
  have f1 := h.c1
  have f2 := h.c2
  have f4 := h.c4
  have g4 := h.fd.free 4
  have q0 := pd_c0 hq
  have q1 := pd_c1 hq
  have q2 := pd_c2 hq
  have q3 := pd_c3 hq
  have q4 := pd_c4 hq
  have hn := h.hn
  have hn1 := h.ok.n1
  have hr := h.ok.room
  have hne0 := h.fd.ne hq (by decide)
  rw [hph] at q2
  have hv : (lk s.vs F.first != 0) = true := by rw [bne_iff_ne]; exact hc
  clear hc
  have Hph := hid hph
  have Hh := hid h
  clear he hph
  go_enter Try.func32, Try.ntmps32
  go_wp2_with fail
  refine Mix.wp_region_mix (fun _ => True) (fun i => ([0, 0, 0, 0, 0, 0, 0, 0, 0, 0, 0, 0, 0, 2, 0, 0, 0, 0, 0] : List Nat).getD i 0) [0, 1, 2, 3, 4, 5, 6, 7, 8, 9, 10, 11, 12, 13, 14, 15, 16, 17, 18] (by kernel_rfl) (by kernel_rfl) ?_
  repeat (first | (refine Mix.mix_q (by simp only [List.getElem?_toArray, List.getElem?_cons_zero, List.getElem?_cons_succ]; exact rfl) rfl ?_; go_big_quiet_step (fail); refine wpQuiet_nil ?_) | (refine Mix.mix_p (by simp only [List.getElem?_toArray, List.getElem?_cons_zero, List.getElem?_cons_succ]; exact rfl) rfl rfl ?_; go_big_quiet_step (fail); refine wpQuiet_nil ?_))
  refine Mix.mix_e (by simp only [List.getElem?_toArray, List.getElem?_cons_zero, List.getElem?_cons_succ]; exact rfl) rfl fun W hW => ?_
  obtain ⟨n1, rfl⟩ := hW
  go_wp2_with fail
  refine (load_ok B p cb lv s q.t (F.first : Nat) _ (bank_drew h.b n1) ⟨ht.1, ht.2, by omega, by omega⟩ hlen hB).mono ?_
  rintro e w1 ⟨rfl, hs1⟩
  obtain ⟨lv', hb1, hc1, hf1, hfd, hqd⟩ := after_bank h.b h.fd hq hs1
  have hne := hfd.ne hqd (by decide)
  have a0 : w1.cell? ⟨qb, 0, none⟩ = some (.pointer (some ⟨fb, 0, none⟩)) := hqd.cell 0
  have a2 : w1.cell? ⟨qb, 2, none⟩ = some (.int .u8 q.ph) := hqd.cell 2
  have a4 : w1.cell? ⟨qb, 4, none⟩ = some (.int .u64 q.l) := hqd.cell 4
  have b2 : w1.cell? ⟨fb, 2, none⟩ = some (.int .i64 F.n) := hfd.cell 2
  have b4 : w1.cell? ⟨fb, 4, none⟩ = some (.int .u64 (cTail s F)) := hfd.cell 4
  have b6 : w1.cell? ⟨fb, 6, none⟩ = some (.bool F.pushing) := hfd.cell 6
  have x6 := hfd.free 6
  have y2 := hqd.free 2
  have y4 := hqd.free 4
  have Hc1 := hid hc1
  have Hfd := hid hfd
  have Hqd := hid hqd
  have Hs1 := hid hs1
  have Hf1 := hid hf1
  have Hb1 := hid hb1
  clear f0 f1 f2 f4 g4 q0 q1 q2 q3 q4 hc1 hfd hqd hs1 hf1 hb1
  rw [Int.toNat_natCast]
  go_wp2_with fail
  repeat (first | (refine Mix.mix_q (by simp only [List.getElem?_toArray, List.getElem?_cons_zero, List.getElem?_cons_succ]; exact rfl) rfl ?_; go_big_quiet_step (fail); refine wpQuiet_nil ?_) | (refine Mix.mix_p (by simp only [List.getElem?_toArray, List.getElem?_cons_zero, List.getElem?_cons_succ]; exact rfl) rfl rfl ?_; go_big_quiet_step (fail); refine wpQuiet_nil ?_))
  intro n2
  go_wp2_with fail
  go_ret2
  rw [← Hph.out]
  exact pres_close (n2) Hh.out Hb1.out (Hc1.out.mono fun _ _ h => .inl h) Hf1.out Hfd.out Hqd.out rfl rfl

set_option maxRecDepth 100000 in
set_option maxHeartbeats 1000000 in
theorem pstep29a (hph : q.ph = 29) (hc : w64 (cTail s F - cHead s F) < F.n) : Calls Try.prog 32 #[.pointer (some ⟨qb, 0, none⟩)] w (PRes B p cb fb qb lv F q (pstep s F q) w) := by
  have he : pstep s F q = (s.load q.t (F.first + 2 : Nat), 30, q.l) := by unfold pstep; rw [if_neg (by rw [hph]; decide), if_neg (by rw [hph]; decide), if_neg (by rw [hph]; decide), if_pos hph, if_pos hc]
  rw [he]
  have f0 := h.c0
  have f1 := h.c1
  have f2 := h.c2
  have f4 := h.c4
  have g4 := h.fd.free 4
  have q0 := pd_c0 hq
  have q1 := pd_c1 hq
  have q2 := pd_c2 hq
  have q3 := pd_c3 hq
  have q4 := pd_c4 hq
  have hn := h.hn
  have hn1 := h.ok.n1
  have hr := h.ok.room
  have hne0 := h.fd.ne hq (by decide)
  rw [hph] at q2
  have hw : IntKind.u64.wrap (cTail s F - lk s.vs (F.first + 2)) = w64 (cTail s F - cHead s F) := w64_wrap _
  have hv : decide (w64 (cTail s F - cHead s F) < (F.n : Int)) = true := decide_eq_true hc
  have hm := h.ok.n2
  clear hc
  have Hph := hid hph
  have Hh := hid h
  clear he hph
  go_enter Try.func32, Try.ntmps32
  go_wp2_with fail
  refine Mix.wp_region_mix (fun _ => True) (fun i => ([0, 0, 0, 0, 0, 0, 0, 0, 0, 0, 0, 0, 0, 2, 0, 0, 0, 0, 0] : List Nat).getD i 0) [0, 1, 2, 3, 4, 5, 6, 7, 8, 9, 10, 11, 12, 13, 14, 15, 16, 17, 18] (by kernel_rfl) (by kernel_rfl) ?_
  repeat (first | (refine Mix.mix_q (by simp only [List.getElem?_toArray, List.getElem?_cons_zero, List.getElem?_cons_succ]; exact rfl) rfl ?_; go_big_quiet_step (fail); refine wpQuiet_nil ?_) | (refine Mix.mix_p (by simp only [List.getElem?_toArray, List.getElem?_cons_zero, List.getElem?_cons_succ]; exact rfl) rfl rfl ?_; go_big_quiet_step (fail); refine wpQuiet_nil ?_))
  refine Mix.mix_e (by simp only [List.getElem?_toArray, List.getElem?_cons_zero, List.getElem?_cons_succ]; exact rfl) rfl fun W hW => ?_
  obtain ⟨n1, rfl⟩ := hW
  go_wp2_with fail
  refine (load_ok B p cb lv s q.t (F.first + 2 : Nat) _ (bank_drew h.b n1) ⟨ht.1, ht.2, by omega, by omega⟩ hlen hB).mono ?_
  rintro e w1 ⟨rfl, hs1⟩
  obtain ⟨lv', hb1, hc1, hf1, hfd, hqd⟩ := after_bank h.b h.fd hq hs1
  have hne := hfd.ne hqd (by decide)
  have a0 : w1.cell? ⟨qb, 0, none⟩ = some (.pointer (some ⟨fb, 0, none⟩)) := hqd.cell 0
  have a2 : w1.cell? ⟨qb, 2, none⟩ = some (.int .u8 q.ph) := hqd.cell 2
  have a4 : w1.cell? ⟨qb, 4, none⟩ = some (.int .u64 q.l) := hqd.cell 4
  have b2 : w1.cell? ⟨fb, 2, none⟩ = some (.int .i64 F.n) := hfd.cell 2
  have b4 : w1.cell? ⟨fb, 4, none⟩ = some (.int .u64 (cTail s F)) := hfd.cell 4
  have b6 : w1.cell? ⟨fb, 6, none⟩ = some (.bool F.pushing) := hfd.cell 6
  have x6 := hfd.free 6
  have y2 := hqd.free 2
  have y4 := hqd.free 4
  have Hc1 := hid hc1
  have Hfd := hid hfd
  have Hqd := hid hqd
  have Hs1 := hid hs1
  have Hf1 := hid hf1
  have Hb1 := hid hb1
  clear f0 f1 f2 f4 g4 q0 q1 q2 q3 q4 hc1 hfd hqd hs1 hf1 hb1
  rw [Int.toNat_natCast]
  go_wp2_with fail
  repeat (first | (refine Mix.mix_q (by simp only [List.getElem?_toArray, List.getElem?_cons_zero, List.getElem?_cons_succ]; exact rfl) rfl ?_; go_big_quiet_step (fail); refine wpQuiet_nil ?_) | (refine Mix.mix_p (by simp only [List.getElem?_toArray, List.getElem?_cons_zero, List.getElem?_cons_succ]; exact rfl) rfl rfl ?_; go_big_quiet_step (fail); refine wpQuiet_nil ?_))
  intro n3
  go_wp2_with fail
  go_quiet (fail)
  go_wp2_with fail
  go_ret2
  rw [← Hph.out]
  exact pres_close (n3 + nq) Hh.out Hb1.out (Hc1.out.mono fun _ _ h => .inl h) Hf1.out Hfd.out Hqd.out rfl rfl

set_option maxRecDepth 100000 in
set_option maxHeartbeats 1000000 in
theorem pstep29b (hph : q.ph = 29) (hc : ¬ w64 (cTail s F - cHead s F) < F.n) : Calls Try.prog 32 #[.pointer (some ⟨qb, 0, none⟩)] w (PRes B p cb fb qb lv F q (pstep s F q) w) := by
  have he : pstep s F q = (s.load q.t (F.first + 2 : Nat), 32, q.l) := by unfold pstep; rw [if_neg (by rw [hph]; decide), if_neg (by rw [hph]; decide), if_neg (by rw [hph]; decide), if_pos hph, if_neg hc]
  rw [he]
  have f0 := h.c0
  have f1 := h.c1
  have f2 := h.c2
  have f4 := h.c4
  have g4 := h.fd.free 4
  have q0 := pd_c0 hq
  have q1 := pd_c1 hq
  have q2 := pd_c2 hq
  have q3 := pd_c3 hq
  have q4 := pd_c4 hq
  have hn := h.hn
  have hn1 := h.ok.n1
  have hr := h.ok.room
  have hne0 := h.fd.ne hq (by decide)
  rw [hph] at q2
  have hw : IntKind.u64.wrap (cTail s F - lk s.vs (F.first + 2)) = w64 (cTail s F - cHead s F) := w64_wrap _
  have hv : decide (w64 (cTail s F - cHead s F) < (F.n : Int)) = false := decide_eq_false hc
  have hm := h.ok.n2
  clear hc
  have Hph := hid hph
  have Hh := hid h
  clear he hph
  go_enter Try.func32, Try.ntmps32
  go_wp2_with fail
  refine Mix.wp_region_mix (fun _ => True) (fun i => ([0, 0, 0, 0, 0, 0, 0, 0, 0, 0, 0, 0, 0, 2, 0, 0, 0, 0, 0] : List Nat).getD i 0) [0, 1, 2, 3, 4, 5, 6, 7, 8, 9, 10, 11, 12, 13, 14, 15, 16, 17, 18] (by kernel_rfl) (by kernel_rfl) ?_
  repeat (first | (refine Mix.mix_q (by simp only [List.getElem?_toArray, List.getElem?_cons_zero, List.getElem?_cons_succ]; exact rfl) rfl ?_; go_big_quiet_step (fail); refine wpQuiet_nil ?_) | (refine Mix.mix_p (by simp only [List.getElem?_toArray, List.getElem?_cons_zero, List.getElem?_cons_succ]; exact rfl) rfl rfl ?_; go_big_quiet_step (fail); refine wpQuiet_nil ?_))
  refine Mix.mix_e (by simp only [List.getElem?_toArray, List.getElem?_cons_zero, List.getElem?_cons_succ]; exact rfl) rfl fun W hW => ?_
  obtain ⟨n1, rfl⟩ := hW
  go_wp2_with fail
  refine (load_ok B p cb lv s q.t (F.first + 2 : Nat) _ (bank_drew h.b n1) ⟨ht.1, ht.2, by omega, by omega⟩ hlen hB).mono ?_
  rintro e w1 ⟨rfl, hs1⟩
  obtain ⟨lv', hb1, hc1, hf1, hfd, hqd⟩ := after_bank h.b h.fd hq hs1
  have hne := hfd.ne hqd (by decide)
  have a0 : w1.cell? ⟨qb, 0, none⟩ = some (.pointer (some ⟨fb, 0, none⟩)) := hqd.cell 0
  have a2 : w1.cell? ⟨qb, 2, none⟩ = some (.int .u8 q.ph) := hqd.cell 2
  have a4 : w1.cell? ⟨qb, 4, none⟩ = some (.int .u64 q.l) := hqd.cell 4
  have b2 : w1.cell? ⟨fb, 2, none⟩ = some (.int .i64 F.n) := hfd.cell 2
  have b4 : w1.cell? ⟨fb, 4, none⟩ = some (.int .u64 (cTail s F)) := hfd.cell 4
  have b6 : w1.cell? ⟨fb, 6, none⟩ = some (.bool F.pushing) := hfd.cell 6
  have x6 := hfd.free 6
  have y2 := hqd.free 2
  have y4 := hqd.free 4
  have Hc1 := hid hc1
  have Hfd := hid hfd
  have Hqd := hid hqd
  have Hs1 := hid hs1
  have Hf1 := hid hf1
  have Hb1 := hid hb1
  clear f0 f1 f2 f4 g4 q0 q1 q2 q3 q4 hc1 hfd hqd hs1 hf1 hb1
  rw [Int.toNat_natCast]
  go_wp2_with fail
  repeat (first | (refine Mix.mix_q (by simp only [List.getElem?_toArray, List.getElem?_cons_zero, List.getElem?_cons_succ]; exact rfl) rfl ?_; go_big_quiet_step (fail); refine wpQuiet_nil ?_) | (refine Mix.mix_p (by simp only [List.getElem?_toArray, List.getElem?_cons_zero, List.getElem?_cons_succ]; exact rfl) rfl rfl ?_; go_big_quiet_step (fail); refine wpQuiet_nil ?_))
  intro n3
  go_wp2_with fail
  go_quiet (fail)
  go_wp2_with fail
  go_ret2
  rw [← Hph.out]
  exact pres_close (n3 + nq) Hh.out Hb1.out (Hc1.out.mono fun _ _ h => .inl h) Hf1.out Hfd.out Hqd.out rfl rfl

set_option maxRecDepth 100000 in
set_option maxHeartbeats 1000000 in
theorem pstep27a (hph : q.ph = 27) (hc : cLag s F = 0) : Calls Try.prog 32 #[.pointer (some ⟨qb, 0, none⟩)] w (PRes B p cb fb qb lv F q (pstep s F q) w) := by
  have he : pstep s F q = (s.load q.t (F.first + 1 : Nat), 29, cLag s F) := by unfold pstep; rw [if_neg (by rw [hph]; decide), if_pos hph, if_pos hc]
  rw [he]
  have f0 := h.c0
  have f1 := h.c1
  have f2 := h.c2
  have f4 := h.c4
  have g4 := h.fd.free 4
  have q0 := pd_c0 hq
  have q1 := pd_c1 hq
  have q2 := pd_c2 hq
  have q3 := pd_c3 hq
  have q4 := pd_c4 hq
  have hn := h.hn
  have hn1 := h.ok.n1
  have hr := h.ok.room
  have hne0 := h.fd.ne hq (by decide)
  rw [hph] at q2
  have hv : (lk s.vs (F.first + 1) != 0) = false := by rw [bne_eq_false_iff_eq]; exact hc
  clear hc
  have Hph := hid hph
  have Hh := hid h
  clear he hph
  go_enter Try.func32, Try.ntmps32
  go_wp2_with fail
  refine Mix.wp_region_mix (fun _ => True) (fun i => ([1, 0, 0, 0, 0, 0, 0, 0, 0, 0, 0, 0, 0, 0, 2, 0, 0, 1, 0, 0, 2] : List Nat).getD i 0) [0, 1, 2, 3, 4, 5, 6, 7, 8, 9, 10, 11, 12, 13, 14, 15, 16, 17, 18, 19, 20] (by kernel_rfl) (by kernel_rfl) ?_
  repeat (first | (refine Mix.mix_q (by simp only [List.getElem?_toArray, List.getElem?_cons_zero, List.getElem?_cons_succ]; exact rfl) rfl ?_; go_big_quiet_step (fail); refine wpQuiet_nil ?_) | (refine Mix.mix_p (by simp only [List.getElem?_toArray, List.getElem?_cons_zero, List.getElem?_cons_succ]; exact rfl) rfl rfl ?_; go_big_quiet_step (fail); refine wpQuiet_nil ?_))
  refine Mix.mix_e (by simp only [List.getElem?_toArray, List.getElem?_cons_zero, List.getElem?_cons_succ]; exact rfl) rfl fun W hW => ?_
  obtain ⟨n1, rfl⟩ := hW
  go_wp2_with fail
  refine (load_ok B p cb lv s q.t (F.first + 1 : Nat) _ (bank_drew h.b n1) ⟨ht.1, ht.2, by omega, by omega⟩ hlen hB).mono ?_
  rintro e w1 ⟨rfl, hs1⟩
  obtain ⟨lv', hb1, hc1, hf1, hfd, hqd⟩ := after_bank h.b h.fd hq hs1
  have hne := hfd.ne hqd (by decide)
  have a0 : w1.cell? ⟨qb, 0, none⟩ = some (.pointer (some ⟨fb, 0, none⟩)) := hqd.cell 0
  have a2 : w1.cell? ⟨qb, 2, none⟩ = some (.int .u8 q.ph) := hqd.cell 2
  have a4 : w1.cell? ⟨qb, 4, none⟩ = some (.int .u64 q.l) := hqd.cell 4
  have b2 : w1.cell? ⟨fb, 2, none⟩ = some (.int .i64 F.n) := hfd.cell 2
  have b4 : w1.cell? ⟨fb, 4, none⟩ = some (.int .u64 (cTail s F)) := hfd.cell 4
  have b6 : w1.cell? ⟨fb, 6, none⟩ = some (.bool F.pushing) := hfd.cell 6
  have x6 := hfd.free 6
  have y2 := hqd.free 2
  have y4 := hqd.free 4
  have Hc1 := hid hc1
  have Hfd := hid hfd
  have Hqd := hid hqd
  have Hs1 := hid hs1
  have Hf1 := hid hf1
  have Hb1 := hid hb1
  clear f0 f1 f2 f4 g4 q0 q1 q2 q3 q4 hc1 hfd hqd hs1 hf1 hb1
  rw [Int.toNat_natCast]
  go_wp2_with fail
  repeat (first | (refine Mix.mix_q (by simp only [List.getElem?_toArray, List.getElem?_cons_zero, List.getElem?_cons_succ]; exact rfl) rfl ?_; go_big_quiet_step (fail); refine wpQuiet_nil ?_) | (refine Mix.mix_p (by simp only [List.getElem?_toArray, List.getElem?_cons_zero, List.getElem?_cons_succ]; exact rfl) rfl rfl ?_; go_big_quiet_step (fail); refine wpQuiet_nil ?_))
  refine Mix.mix_e (by simp only [List.getElem?_toArray, List.getElem?_cons_zero, List.getElem?_cons_succ]; exact rfl) rfl fun W2 hW2 => ?_
  obtain ⟨n2, rfl⟩ := hW2
  go_wp2_with fail
  refine Mix.mix_world fun w2 hw2 => ?_
  have hqd2 : Blk w2 qb 106 (pdCells fb ⟨q.t, q.ph, q.p, lk s.vs (F.first + 1)⟩) := by rw [hw2]; exact (Hqd.out.drewN n2).put 4 _
  have hfd2 : Blk w2 fb 98 (fdCells p s F) := by rw [hw2]; exact (Hfd.out.drewN n2).far (p := ⟨qb, 4, none⟩) hne _
  have c2 : Ch (fun b => b = qb) w1 w2 := by rw [hw2]; exact ((Ch.refl (fun b => b = qb) w1).drewN n2).set (fun _ => rfl) _
  have nq := not_fp Hb1.out Hqd.out (by decide) (by decide) (by decide)
  have hb2 : Bank B w2 p cb lv' (s.load q.t (F.first + 1 : Nat)).vs (s.load q.t (F.first + 1 : Nat)).lg := Hb1.out.ch c2 (fun e => nq (.inl e.symm)) (fun e => nq (.inr (.inl e.symm))) (fun k hk e => nq (.inr (.inr (by rw [← e]; exact hk))))
  have hc2 : Ch (fun b => FP p cb lv b ∨ b = fb ∨ b = qb) w w2 := (Hc1.out.mono fun _ _ h => .inl h).trans c2 (fun _ _ h => .inr (.inr h))
  clear hw2 a0 a2 a4 b2 b4 b6 x6 y2 y4
  have a0 : w2.cell? ⟨qb, 0, none⟩ = some (.pointer (some ⟨fb, 0, none⟩)) := hqd2.cell 0
  have a2 : w2.cell? ⟨qb, 2, none⟩ = some (.int .u8 q.ph) := hqd2.cell 2
  have a4 : w2.cell? ⟨qb, 4, none⟩ = some (.int .u64 (lk s.vs (F.first + 1))) := hqd2.cell 4
  have b6 : w2.cell? ⟨fb, 6, none⟩ = some (.bool F.pushing) := hfd2.cell 6
  have x6 := hfd2.free 6
  have y2 := hqd2.free 2
  have Hb2 := hid hb2
  have Hc2 := hid hc2
  have Hqd2 := hid hqd2
  have Hfd2 := hid hfd2
  clear hb2 hc2 hqd2 hfd2 c2 nq
  intro n3
  go_wp2_with fail
  go_ret2
  rw [← Hph.out]
  exact pres_close n3 Hh.out Hb2.out Hc2.out Hf1.out Hfd2.out Hqd2.out rfl rfl

set_option maxRecDepth 100000 in
set_option maxHeartbeats 1000000 in
theorem pstep27b (hph : q.ph = 27) (hc : cLag s F ≠ 0) : Calls Try.prog 32 #[.pointer (some ⟨qb, 0, none⟩)] w (PRes B p cb fb qb lv F q (pstep s F q) w) := by
  have he : pstep s F q = (s.load q.t (F.first + 1 : Nat), 28, cLag s F) := by unfold pstep; rw [if_neg (by rw [hph]; decide), if_pos hph, if_neg hc]
  rw [he]
  have f0 := h.c0
  have f1 := h.c1
  have f2 := h.c2
  have f4 := h.c4
  have g4 := h.fd.free 4
  have q0 := pd_c0 hq
  have q1 := pd_c1 hq
  have q2 := pd_c2 hq
  have q3 := pd_c3 hq
  have q4 := pd_c4 hq
  have hn := h.hn
  have hn1 := h.ok.n1
  have hr := h.ok.room
  have hne0 := h.fd.ne hq (by decide)
  rw [hph] at q2
  have hv : (lk s.vs (F.first + 1) != 0) = true := by rw [bne_iff_ne]; exact hc
  clear hc
  have Hph := hid hph
  have Hh := hid h
  clear he hph
  go_enter Try.func32, Try.ntmps32
  go_wp2_with fail
  refine Mix.wp_region_mix (fun _ => True) (fun i => ([1, 0, 0, 0, 0, 0, 0, 0, 0, 0, 0, 0, 0, 0, 2, 0, 0, 1, 0, 0, 2] : List Nat).getD i 0) [0, 1, 2, 3, 4, 5, 6, 7, 8, 9, 10, 11, 12, 13, 14, 15, 16, 17, 18, 19, 20] (by kernel_rfl) (by kernel_rfl) ?_
  repeat (first | (refine Mix.mix_q (by simp only [List.getElem?_toArray, List.getElem?_cons_zero, List.getElem?_cons_succ]; exact rfl) rfl ?_; go_big_quiet_step (fail); refine wpQuiet_nil ?_) | (refine Mix.mix_p (by simp only [List.getElem?_toArray, List.getElem?_cons_zero, List.getElem?_cons_succ]; exact rfl) rfl rfl ?_; go_big_quiet_step (fail); refine wpQuiet_nil ?_))
  refine Mix.mix_e (by simp only [List.getElem?_toArray, List.getElem?_cons_zero, List.getElem?_cons_succ]; exact rfl) rfl fun W hW => ?_
  obtain ⟨n1, rfl⟩ := hW
  go_wp2_with fail
  refine (load_ok B p cb lv s q.t (F.first + 1 : Nat) _ (bank_drew h.b n1) ⟨ht.1, ht.2, by omega, by omega⟩ hlen hB).mono ?_
  rintro e w1 ⟨rfl, hs1⟩
  obtain ⟨lv', hb1, hc1, hf1, hfd, hqd⟩ := after_bank h.b h.fd hq hs1
  have hne := hfd.ne hqd (by decide)
  have a0 : w1.cell? ⟨qb, 0, none⟩ = some (.pointer (some ⟨fb, 0, none⟩)) := hqd.cell 0
  have a2 : w1.cell? ⟨qb, 2, none⟩ = some (.int .u8 q.ph) := hqd.cell 2
  have a4 : w1.cell? ⟨qb, 4, none⟩ = some (.int .u64 q.l) := hqd.cell 4
  have b2 : w1.cell? ⟨fb, 2, none⟩ = some (.int .i64 F.n) := hfd.cell 2
  have b4 : w1.cell? ⟨fb, 4, none⟩ = some (.int .u64 (cTail s F)) := hfd.cell 4
  have b6 : w1.cell? ⟨fb, 6, none⟩ = some (.bool F.pushing) := hfd.cell 6
  have x6 := hfd.free 6
  have y2 := hqd.free 2
  have y4 := hqd.free 4
  have Hc1 := hid hc1
  have Hfd := hid hfd
  have Hqd := hid hqd
  have Hs1 := hid hs1
  have Hf1 := hid hf1
  have Hb1 := hid hb1
  clear f0 f1 f2 f4 g4 q0 q1 q2 q3 q4 hc1 hfd hqd hs1 hf1 hb1
  rw [Int.toNat_natCast]
  go_wp2_with fail
  repeat (first | (refine Mix.mix_q (by simp only [List.getElem?_toArray, List.getElem?_cons_zero, List.getElem?_cons_succ]; exact rfl) rfl ?_; go_big_quiet_step (fail); refine wpQuiet_nil ?_) | (refine Mix.mix_p (by simp only [List.getElem?_toArray, List.getElem?_cons_zero, List.getElem?_cons_succ]; exact rfl) rfl rfl ?_; go_big_quiet_step (fail); refine wpQuiet_nil ?_))
  refine Mix.mix_e (by simp only [List.getElem?_toArray, List.getElem?_cons_zero, List.getElem?_cons_succ]; exact rfl) rfl fun W2 hW2 => ?_
  obtain ⟨n2, rfl⟩ := hW2
  go_wp2_with fail
  refine Mix.mix_world fun w2 hw2 => ?_
  have hqd2 : Blk w2 qb 106 (pdCells fb ⟨q.t, q.ph, q.p, lk s.vs (F.first + 1)⟩) := by rw [hw2]; exact (Hqd.out.drewN n2).put 4 _
  have hfd2 : Blk w2 fb 98 (fdCells p s F) := by rw [hw2]; exact (Hfd.out.drewN n2).far (p := ⟨qb, 4, none⟩) hne _
  have c2 : Ch (fun b => b = qb) w1 w2 := by rw [hw2]; exact ((Ch.refl (fun b => b = qb) w1).drewN n2).set (fun _ => rfl) _
  have nq := not_fp Hb1.out Hqd.out (by decide) (by decide) (by decide)
  have hb2 : Bank B w2 p cb lv' (s.load q.t (F.first + 1 : Nat)).vs (s.load q.t (F.first + 1 : Nat)).lg := Hb1.out.ch c2 (fun e => nq (.inl e.symm)) (fun e => nq (.inr (.inl e.symm))) (fun k hk e => nq (.inr (.inr (by rw [← e]; exact hk))))
  have hc2 : Ch (fun b => FP p cb lv b ∨ b = fb ∨ b = qb) w w2 := (Hc1.out.mono fun _ _ h => .inl h).trans c2 (fun _ _ h => .inr (.inr h))
  clear hw2 a0 a2 a4 b2 b4 b6 x6 y2 y4
  have a0 : w2.cell? ⟨qb, 0, none⟩ = some (.pointer (some ⟨fb, 0, none⟩)) := hqd2.cell 0
  have a2 : w2.cell? ⟨qb, 2, none⟩ = some (.int .u8 q.ph) := hqd2.cell 2
  have a4 : w2.cell? ⟨qb, 4, none⟩ = some (.int .u64 (lk s.vs (F.first + 1))) := hqd2.cell 4
  have b6 : w2.cell? ⟨fb, 6, none⟩ = some (.bool F.pushing) := hfd2.cell 6
  have x6 := hfd2.free 6
  have y2 := hqd2.free 2
  have Hb2 := hid hb2
  have Hc2 := hid hc2
  have Hqd2 := hid hqd2
  have Hfd2 := hid hfd2
  clear hb2 hc2 hqd2 hfd2 c2 nq
  intro n3
  go_wp2_with fail
  go_ret2
  rw [← Hph.out]
  exact pres_close n3 Hh.out Hb2.out Hc2.out Hf1.out Hfd2.out Hqd2.out rfl rfl

set_option maxRecDepth 100000 in
set_option maxHeartbeats 1000000 in
theorem pstep28a (hph : q.ph = 28) (hc : cLag s F = q.l) : Calls Try.prog 32 #[.pointer (some ⟨qb, 0, none⟩)] w (PRes B p cb fb qb lv F q (pstep s F q) w) := by
  have he : pstep s F q = (s.setlog (F.first + 1) q.p ⟨q.t, (F.first + 1 : Nat), 5, q.l, q.p, true⟩, 0, q.l) := by unfold pstep; rw [if_neg (by rw [hph]; decide), if_neg (by rw [hph]; decide), if_pos hph]; have hc1 : lk s.vs (F.first + 1) = q.l := hc; simp only [BS.cas, cLag, Int.toNat_natCast, hc1, if_true]
  rw [he]
  have f0 := h.c0
  have f1 := h.c1
  have f2 := h.c2
  have f4 := h.c4
  have g4 := h.fd.free 4
  have q0 := pd_c0 hq
  have q1 := pd_c1 hq
  have q2 := pd_c2 hq
  have q3 := pd_c3 hq
  have q4 := pd_c4 hq
  have hn := h.hn
  have hn1 := h.ok.n1
  have hr := h.ok.room
  have hne0 := h.fd.ne hq (by decide)
  rw [hph] at q2
  have Hc : Hid (lk s.vs (F.first + 1 : Int).toNat = q.l) := hid (by rw [show ((F.first : Int) + 1).toNat = F.first + 1 by omega]; exact hc)
  clear hc
  have Hph := hid hph
  have Hh := hid h
  clear he hph
  go_enter Try.func32, Try.ntmps32
  go_wp2_with fail
  refine Mix.wp_region_mix (fun _ => True) (fun i => ([0, 0, 0, 0, 0, 0, 0, 0, 0, 0, 0, 0, 0, 0, 0, 0, 0, 0, 0, 0, 0, 2, 0, 0, 0, 0, 0] : List Nat).getD i 0) [0, 1, 2, 3, 4, 5, 6, 7, 8, 9, 10, 11, 12, 13, 14, 15, 16, 17, 18, 19, 20, 21, 22, 23, 24, 25, 26] (by kernel_rfl) (by kernel_rfl) ?_
  repeat (first | (refine Mix.mix_q (by simp only [List.getElem?_toArray, List.getElem?_cons_zero, List.getElem?_cons_succ]; exact rfl) rfl ?_; go_big_quiet_step (fail); refine wpQuiet_nil ?_) | (refine Mix.mix_p (by simp only [List.getElem?_toArray, List.getElem?_cons_zero, List.getElem?_cons_succ]; exact rfl) rfl rfl ?_; go_big_quiet_step (fail); refine wpQuiet_nil ?_))
  refine Mix.mix_e (by simp only [List.getElem?_toArray, List.getElem?_cons_zero, List.getElem?_cons_succ]; exact rfl) rfl fun W hW => ?_
  obtain ⟨n1, rfl⟩ := hW
  go_wp2_with fail
  refine (cas_hit' B p cb lv s q.t (F.first + 1 : Nat) q.l q.p _ (bank_drew h.b n1) ⟨ht.1, ht.2, by omega, by omega⟩ hlen hB hp (Hc.out)).mono ?_
  rintro e w1 ⟨rfl, hs1⟩
  obtain ⟨lv', hb1, hc1, hf1, hfd, hqd⟩ := after_bank h.b h.fd hq hs1
  have hne := hfd.ne hqd (by decide)
  have a0 : w1.cell? ⟨qb, 0, none⟩ = some (.pointer (some ⟨fb, 0, none⟩)) := hqd.cell 0
  have a2 : w1.cell? ⟨qb, 2, none⟩ = some (.int .u8 q.ph) := hqd.cell 2
  have a4 : w1.cell? ⟨qb, 4, none⟩ = some (.int .u64 q.l) := hqd.cell 4
  have b2 : w1.cell? ⟨fb, 2, none⟩ = some (.int .i64 F.n) := hfd.cell 2
  have b4 : w1.cell? ⟨fb, 4, none⟩ = some (.int .u64 (cTail s F)) := hfd.cell 4
  have b6 : w1.cell? ⟨fb, 6, none⟩ = some (.bool F.pushing) := hfd.cell 6
  have x6 := hfd.free 6
  have y2 := hqd.free 2
  have y4 := hqd.free 4
  have Hc1 := hid hc1
  have Hfd := hid hfd
  have Hqd := hid hqd
  have Hs1 := hid hs1
  have Hf1 := hid hf1
  have Hb1 := hid hb1
  clear f0 f1 f2 f4 g4 q0 q1 q2 q3 q4 hc1 hfd hqd hs1 hf1 hb1
  go_wp2_with fail
  repeat (first | (refine Mix.mix_q (by simp only [List.getElem?_toArray, List.getElem?_cons_zero, List.getElem?_cons_succ]; exact rfl) rfl ?_; go_big_quiet_step (fail); refine wpQuiet_nil ?_) | (refine Mix.mix_p (by simp only [List.getElem?_toArray, List.getElem?_cons_zero, List.getElem?_cons_succ]; exact rfl) rfl rfl ?_; go_big_quiet_step (fail); refine wpQuiet_nil ?_))
  intro n2
  go_wp2_with fail
  go_ret2
  rw [← Hph.out]
  exact pres_close (n2) Hh.out Hb1.out (Hc1.out.mono fun _ _ h => .inl h) Hf1.out (by rw [fdc_set (s := s) (F.first + 1) q.p rfl (by omega) (by omega)]; exact Hfd.out) Hqd.out (List.length_set ..) rfl

set_option maxRecDepth 100000 in
set_option maxHeartbeats 1000000 in
theorem pstep28b (hph : q.ph = 28) (hc : cLag s F ≠ q.l) : Calls Try.prog 32 #[.pointer (some ⟨qb, 0, none⟩)] w (PRes B p cb fb qb lv F q (pstep s F q) w) := by
  have he : pstep s F q = (s.log ⟨q.t, (F.first + 1 : Nat), 5, lk s.vs (F.first + 1), lk s.vs (F.first + 1), false⟩, 29, q.l) := by unfold pstep; rw [if_neg (by rw [hph]; decide), if_neg (by rw [hph]; decide), if_pos hph]; have hc1 : ¬ lk s.vs (F.first + 1) = q.l := hc; simp only [BS.cas, cLag, Int.toNat_natCast, hc1, if_false]
  rw [he]
  have f0 := h.c0
  have f1 := h.c1
  have f2 := h.c2
  have f4 := h.c4
  have g4 := h.fd.free 4
  have q0 := pd_c0 hq
  have q1 := pd_c1 hq
  have q2 := pd_c2 hq
  have q3 := pd_c3 hq
  have q4 := pd_c4 hq
  have hn := h.hn
  have hn1 := h.ok.n1
  have hr := h.ok.room
  have hne0 := h.fd.ne hq (by decide)
  rw [hph] at q2
  have Hc : Hid (lk s.vs (F.first + 1 : Int).toNat ≠ q.l) := hid (by rw [show ((F.first : Int) + 1).toNat = F.first + 1 by omega]; exact hc)
  clear hc
  have Hph := hid hph
  have Hh := hid h
  clear he hph
  go_enter Try.func32, Try.ntmps32
  go_wp2_with fail
  refine Mix.wp_region_mix (fun _ => True) (fun i => ([0, 0, 0, 0, 0, 0, 0, 0, 0, 0, 0, 0, 0, 0, 0, 0, 0, 0, 0, 0, 0, 2, 0, 0, 0, 0, 0] : List Nat).getD i 0) [0, 1, 2, 3, 4, 5, 6, 7, 8, 9, 10, 11, 12, 13, 14, 15, 16, 17, 18, 19, 20, 21, 22, 23, 24, 25, 26] (by kernel_rfl) (by kernel_rfl) ?_
  repeat (first | (refine Mix.mix_q (by simp only [List.getElem?_toArray, List.getElem?_cons_zero, List.getElem?_cons_succ]; exact rfl) rfl ?_; go_big_quiet_step (fail); refine wpQuiet_nil ?_) | (refine Mix.mix_p (by simp only [List.getElem?_toArray, List.getElem?_cons_zero, List.getElem?_cons_succ]; exact rfl) rfl rfl ?_; go_big_quiet_step (fail); refine wpQuiet_nil ?_))
  refine Mix.mix_e (by simp only [List.getElem?_toArray, List.getElem?_cons_zero, List.getElem?_cons_succ]; exact rfl) rfl fun W hW => ?_
  obtain ⟨n1, rfl⟩ := hW
  go_wp2_with fail
  refine (cas_miss' B p cb lv s q.t (F.first + 1 : Nat) q.l q.p _ (bank_drew h.b n1) ⟨ht.1, ht.2, by omega, by omega⟩ hlen hB (Hc.out)).mono ?_
  rintro e w1 ⟨rfl, hs1⟩
  obtain ⟨lv', hb1, hc1, hf1, hfd, hqd⟩ := after_bank h.b h.fd hq hs1
  have hne := hfd.ne hqd (by decide)
  have a0 : w1.cell? ⟨qb, 0, none⟩ = some (.pointer (some ⟨fb, 0, none⟩)) := hqd.cell 0
  have a2 : w1.cell? ⟨qb, 2, none⟩ = some (.int .u8 q.ph) := hqd.cell 2
  have a4 : w1.cell? ⟨qb, 4, none⟩ = some (.int .u64 q.l) := hqd.cell 4
  have b2 : w1.cell? ⟨fb, 2, none⟩ = some (.int .i64 F.n) := hfd.cell 2
  have b4 : w1.cell? ⟨fb, 4, none⟩ = some (.int .u64 (cTail s F)) := hfd.cell 4
  have b6 : w1.cell? ⟨fb, 6, none⟩ = some (.bool F.pushing) := hfd.cell 6
  have x6 := hfd.free 6
  have y2 := hqd.free 2
  have y4 := hqd.free 4
  have Hc1 := hid hc1
  have Hfd := hid hfd
  have Hqd := hid hqd
  have Hs1 := hid hs1
  have Hf1 := hid hf1
  have Hb1 := hid hb1
  clear f0 f1 f2 f4 g4 q0 q1 q2 q3 q4 hc1 hfd hqd hs1 hf1 hb1
  go_wp2_with fail
  repeat (first | (refine Mix.mix_q (by simp only [List.getElem?_toArray, List.getElem?_cons_zero, List.getElem?_cons_succ]; exact rfl) rfl ?_; go_big_quiet_step (fail); refine wpQuiet_nil ?_) | (refine Mix.mix_p (by simp only [List.getElem?_toArray, List.getElem?_cons_zero, List.getElem?_cons_succ]; exact rfl) rfl rfl ?_; go_big_quiet_step (fail); refine wpQuiet_nil ?_))
  intro n2
  go_wp2_with fail
  go_ret2
  rw [← Hph.out]
  exact pres_close (n2) Hh.out Hb1.out (Hc1.out.mono fun _ _ h => .inl h) Hf1.out Hfd.out Hqd.out rfl rfl

set_option maxRecDepth 100000 in
set_option maxHeartbeats 1000000 in
theorem pstep30 (hph : q.ph = 30)  : Calls Try.prog 32 #[.pointer (some ⟨qb, 0, none⟩)] w (PRes B p cb fb qb lv F q (pstep s F q) w) := by
  have he : pstep s F q = (s.store q.t (F.ent (cTail s F) : Nat) q.p, 31, q.l) := by unfold pstep; rw [if_neg (by rw [hph]; decide), if_neg (by rw [hph]; decide), if_neg (by rw [hph]; decide), if_neg (by rw [hph]; decide), if_pos hph]
  rw [he]
  have f0 := h.c0
  have f1 := h.c1
  have f2 := h.c2
  have f4 := h.c4
  have g4 := h.fd.free 4
  have q0 := pd_c0 hq
  have q1 := pd_c1 hq
  have q2 := pd_c2 hq
  have q3 := pd_c3 hq
  have q4 := pd_c4 hq
  have hn := h.hn
  have hn1 := h.ok.n1
  have hr := h.ok.room
  have hne0 := h.fd.ne hq (by decide)
  rw [hph] at q2
  have hct : 0 ≤ cTail s F := (lk_bd h.b.hv _).1
  have Hph := hid hph
  have Hh := hid h
  clear he hph
  go_enter Try.func32, Try.ntmps32
  go_wp2_with fail
  refine Mix.wp_region_mix (fun _ => True) (fun i => ([0, 0, 0, 0, 0, 0, 0, 0, 0, 0, 0, 0, 0, 0, 0, 0, 0, 0, 0, 0, 0, 2] : List Nat).getD i 0) [0, 1, 2, 3, 4, 5, 6, 7, 8, 9, 10, 11, 12, 13, 14, 15, 16, 17, 18, 19, 20, 21] (by kernel_rfl) (by kernel_rfl) ?_
  repeat (first | (refine Mix.mix_q (by simp only [List.getElem?_toArray, List.getElem?_cons_zero, List.getElem?_cons_succ]; exact rfl) rfl ?_; go_big_quiet_step ((go_at_call 63; exact fent_q h _ hct _)); refine wpQuiet_nil ?_) | (refine Mix.mix_p (by simp only [List.getElem?_toArray, List.getElem?_cons_zero, List.getElem?_cons_succ]; exact rfl) rfl rfl ?_; go_big_quiet_step (fail); refine wpQuiet_nil ?_))
  refine Mix.mix_e (by simp only [List.getElem?_toArray, List.getElem?_cons_zero, List.getElem?_cons_succ]; exact rfl) rfl fun W hW => ?_
  obtain ⟨n1, rfl⟩ := hW
  go_wp2_with fail
  refine (store_ok B p cb lv s q.t (F.ent (cTail s F) : Nat) q.p _ (bank_drew h.b n1) ⟨ht.1, ht.2, by omega, by have := ent_lt h.ok (cTail s F); omega⟩ hlen hB hp).mono ?_
  rintro e w1 ⟨rfl, hs1⟩
  obtain ⟨lv', hb1, hc1, hf1, hfd, hqd⟩ := after_bank h.b h.fd hq hs1
  have hne := hfd.ne hqd (by decide)
  have a0 : w1.cell? ⟨qb, 0, none⟩ = some (.pointer (some ⟨fb, 0, none⟩)) := hqd.cell 0
  have a2 : w1.cell? ⟨qb, 2, none⟩ = some (.int .u8 q.ph) := hqd.cell 2
  have a4 : w1.cell? ⟨qb, 4, none⟩ = some (.int .u64 q.l) := hqd.cell 4
  have b2 : w1.cell? ⟨fb, 2, none⟩ = some (.int .i64 F.n) := hfd.cell 2
  have b4 : w1.cell? ⟨fb, 4, none⟩ = some (.int .u64 (cTail s F)) := hfd.cell 4
  have b6 : w1.cell? ⟨fb, 6, none⟩ = some (.bool F.pushing) := hfd.cell 6
  have x6 := hfd.free 6
  have y2 := hqd.free 2
  have y4 := hqd.free 4
  have Hc1 := hid hc1
  have Hfd := hid hfd
  have Hqd := hid hqd
  have Hs1 := hid hs1
  have Hf1 := hid hf1
  have Hb1 := hid hb1
  clear f0 f1 f2 f4 g4 q0 q1 q2 q3 q4 hc1 hfd hqd hs1 hf1 hb1
  go_wp2_with fail
  repeat (first | (refine Mix.mix_q (by simp only [List.getElem?_toArray, List.getElem?_cons_zero, List.getElem?_cons_succ]; exact rfl) rfl ?_; go_big_quiet_step (fail); refine wpQuiet_nil ?_) | (refine Mix.mix_p (by simp only [List.getElem?_toArray, List.getElem?_cons_zero, List.getElem?_cons_succ]; exact rfl) rfl rfl ?_; go_big_quiet_step (fail); refine wpQuiet_nil ?_))
  intro n2
  go_wp2_with fail
  go_ret2
  rw [← Hph.out]
  exact pres_close (n2) Hh.out Hb1.out (Hc1.out.mono fun _ _ h => .inl h) Hf1.out (by rw [fdc_set (s := s) (F.ent (cTail s F)) q.p rfl (by unfold Fd.ent; omega) (by unfold Fd.ent; omega)]; exact Hfd.out) Hqd.out (List.length_set ..) rfl

set_option maxRecDepth 100000 in
set_option maxHeartbeats 1000000 in
theorem pstep32 (hph : q.ph = 32)  : Calls Try.prog 32 #[.pointer (some ⟨qb, 0, none⟩)] w (PRes B p cb fb qb lv F q (pstep s F q) w) := by
  have he : pstep s F q = (s.store q.t (F.first + 1 : Nat) q.p, 0, q.l) := by unfold pstep; rw [if_neg (by rw [hph]; decide), if_neg (by rw [hph]; decide), if_neg (by rw [hph]; decide), if_neg (by rw [hph]; decide), if_neg (by rw [hph]; decide), if_neg (by rw [hph]; decide)]
  rw [he]
  have f0 := h.c0
  have f1 := h.c1
  have f2 := h.c2
  have f4 := h.c4
  have g4 := h.fd.free 4
  have q0 := pd_c0 hq
  have q1 := pd_c1 hq
  have q2 := pd_c2 hq
  have q3 := pd_c3 hq
  have q4 := pd_c4 hq
  have hn := h.hn
  have hn1 := h.ok.n1
  have hr := h.ok.room
  have hne0 := h.fd.ne hq (by decide)
  rw [hph] at q2
  have Hph := hid hph
  have Hh := hid h
  clear he hph
  go_enter Try.func32, Try.ntmps32
  go_wp2_with fail
  refine Mix.wp_region_mix (fun _ => True) (fun i => ([0, 0, 0, 0, 0, 0, 0, 0, 0, 0, 0, 0, 0, 0, 0, 0, 0, 2] : List Nat).getD i 0) [0, 1, 2, 3, 4, 5, 6, 7, 8, 9, 10, 11, 12, 13, 14, 15, 16, 17] (by kernel_rfl) (by kernel_rfl) ?_
  repeat (first | (refine Mix.mix_q (by simp only [List.getElem?_toArray, List.getElem?_cons_zero, List.getElem?_cons_succ]; exact rfl) rfl ?_; go_big_quiet_step (fail); refine wpQuiet_nil ?_) | (refine Mix.mix_p (by simp only [List.getElem?_toArray, List.getElem?_cons_zero, List.getElem?_cons_succ]; exact rfl) rfl rfl ?_; go_big_quiet_step (fail); refine wpQuiet_nil ?_))
  refine Mix.mix_e (by simp only [List.getElem?_toArray, List.getElem?_cons_zero, List.getElem?_cons_succ]; exact rfl) rfl fun W hW => ?_
  obtain ⟨n1, rfl⟩ := hW
  go_wp2_with fail
  refine (store_ok B p cb lv s q.t (F.first + 1 : Nat) q.p _ (bank_drew h.b n1) ⟨ht.1, ht.2, by omega, by omega⟩ hlen hB hp).mono ?_
  rintro e w1 ⟨rfl, hs1⟩
  obtain ⟨lv', hb1, hc1, hf1, hfd, hqd⟩ := after_bank h.b h.fd hq hs1
  have hne := hfd.ne hqd (by decide)
  have a0 : w1.cell? ⟨qb, 0, none⟩ = some (.pointer (some ⟨fb, 0, none⟩)) := hqd.cell 0
  have a2 : w1.cell? ⟨qb, 2, none⟩ = some (.int .u8 q.ph) := hqd.cell 2
  have a4 : w1.cell? ⟨qb, 4, none⟩ = some (.int .u64 q.l) := hqd.cell 4
  have b2 : w1.cell? ⟨fb, 2, none⟩ = some (.int .i64 F.n) := hfd.cell 2
  have b4 : w1.cell? ⟨fb, 4, none⟩ = some (.int .u64 (cTail s F)) := hfd.cell 4
  have b6 : w1.cell? ⟨fb, 6, none⟩ = some (.bool F.pushing) := hfd.cell 6
  have x6 := hfd.free 6
  have y2 := hqd.free 2
  have y4 := hqd.free 4
  have Hc1 := hid hc1
  have Hfd := hid hfd
  have Hqd := hid hqd
  have Hs1 := hid hs1
  have Hf1 := hid hf1
  have Hb1 := hid hb1
  clear f0 f1 f2 f4 g4 q0 q1 q2 q3 q4 hc1 hfd hqd hs1 hf1 hb1
  go_wp2_with fail
  repeat (first | (refine Mix.mix_q (by simp only [List.getElem?_toArray, List.getElem?_cons_zero, List.getElem?_cons_succ]; exact rfl) rfl ?_; go_big_quiet_step (fail); refine wpQuiet_nil ?_) | (refine Mix.mix_p (by simp only [List.getElem?_toArray, List.getElem?_cons_zero, List.getElem?_cons_succ]; exact rfl) rfl rfl ?_; go_big_quiet_step (fail); refine wpQuiet_nil ?_))
  intro n2
  go_wp2_with fail
  go_ret2
  rw [← Hph.out]
  exact pres_close (n2) Hh.out Hb1.out (Hc1.out.mono fun _ _ h => .inl h) Hf1.out (by rw [fdc_set (s := s) (F.first + 1) q.p rfl (by omega) (by omega)]; exact Hfd.out) Hqd.out (List.length_set ..) rfl

set_option maxRecDepth 100000 in
set_option maxHeartbeats 1000000 in
theorem pstep31 (hph : q.ph = 31)  : Calls Try.prog 32 #[.pointer (some ⟨qb, 0, none⟩)] w (PRes B p cb fb qb lv F q (pstep s F q) w) := by
  have he : pstep s F q = (s.store q.t (F.first + 3 : Nat) (w64 (cTail s F + 1)), 0, q.l) := by unfold pstep; rw [if_neg (by rw [hph]; decide), if_neg (by rw [hph]; decide), if_neg (by rw [hph]; decide), if_neg (by rw [hph]; decide), if_neg (by rw [hph]; decide), if_pos hph]
  rw [he]
  have f0 := h.c0
  have f1 := h.c1
  have f2 := h.c2
  have f4 := h.c4
  have g4 := h.fd.free 4
  have q0 := pd_c0 hq
  have q1 := pd_c1 hq
  have q2 := pd_c2 hq
  have q3 := pd_c3 hq
  have q4 := pd_c4 hq
  have hn := h.hn
  have hn1 := h.ok.n1
  have hr := h.ok.room
  have hne0 := h.fd.ne hq (by decide)
  rw [hph] at q2
  have hw : IntKind.u64.wrap (cTail s F + 1) = w64 (cTail s F + 1) := w64_wrap _
  have hbd := w64_bd (cTail s F + 1)
  generalize w64 (cTail s F + 1) = t1 at hw hbd ⊢
  have Hph := hid hph
  have Hh := hid h
  clear he hph
  go_enter Try.func32, Try.ntmps32
  go_wp2_with fail
  refine Mix.wp_region_mix (fun _ => True) (fun i => ([0, 0, 0, 0, 0, 0, 0, 0, 0, 0, 0, 0, 0, 0, 0, 0, 0, 0, 0, 0, 2] : List Nat).getD i 0) [0, 1, 2, 3, 4, 5, 6, 7, 8, 9, 10, 11, 12, 13, 14, 15, 16, 17, 18, 19, 20] (by kernel_rfl) (by kernel_rfl) ?_
  refine Mix.mix_world fun W0 hW0 => ?_
  have hfd0 : Blk W0 fb 98 #[.pointer (some ⟨p, 0, none⟩), .int .i64 F.first, .int .i64 F.n, .int .u64 (cHead s F), .int .u64 t1, .int .u64 F.last, .bool F.pushing, .bool F.receiving] := by rw [hW0]; exact Hh.out.fd.put 4 _
  have hqd0 : Blk W0 qb 106 (pdCells fb q) := by rw [hW0]; exact hq.far (p := ⟨fb, 4, none⟩) (Ne.symm hne0) _
  have c0 : Ch (fun b => b = fb) w W0 := by rw [hW0]; exact (Ch.refl (fun b => b = fb) w).set (fun _ => rfl) _
  have nf := not_fp Hh.out.b Hh.out.fd (by decide) (by decide) (by decide)
  have hb0 : Bank B W0 p cb lv s.vs s.lg := Hh.out.b.ch c0 (fun e => nf (.inl e.symm)) (fun e => nf (.inr (.inl e.symm))) (fun k hk e => nf (.inr (.inr (by rw [← e]; exact hk))))
  have hs0 : B ≤ W0.heap.size := Nat.le_trans hB c0.size
  have hz0 : W0.heap.size = w.heap.size := by rw [hW0]; simp
  clear hW0 f0 f1 f2 f4 g4 q0 q1 q2 q3 q4 nf
  have f0 : W0.cell? ⟨fb, 0, none⟩ = some (.pointer (some ⟨p, 0, none⟩)) := hfd0.cell 0
  have f1 : W0.cell? ⟨fb, 1, none⟩ = some (.int .i64 F.first) := hfd0.cell 1
  have f2 : W0.cell? ⟨fb, 2, none⟩ = some (.int .i64 F.n) := hfd0.cell 2
  have f4 : W0.cell? ⟨fb, 4, none⟩ = some (.int .u64 t1) := hfd0.cell 4
  have g4 := hfd0.free 4
  have q0 := pd_c0 hqd0
  have q1 := pd_c1 hqd0
  have q2 := pd_c2 hqd0
  have q3 := pd_c3 hqd0
  have q4 := pd_c4 hqd0
  have HB0 := hid hb0
  have HF0 := hid hfd0
  have HQ0 := hid hqd0
  have HC0 := hid c0
  have HZ0 := hid hz0
  clear hb0 hfd0 hqd0 c0 hz0
  repeat (first | (refine Mix.mix_q (by simp only [List.getElem?_toArray, List.getElem?_cons_zero, List.getElem?_cons_succ]; exact rfl) rfl ?_; go_big_quiet_step (fail); refine wpQuiet_nil ?_) | (refine Mix.mix_p (by simp only [List.getElem?_toArray, List.getElem?_cons_zero, List.getElem?_cons_succ]; exact rfl) rfl rfl ?_; go_big_quiet_step (fail); refine wpQuiet_nil ?_))
  refine Mix.mix_e (by simp only [List.getElem?_toArray, List.getElem?_cons_zero, List.getElem?_cons_succ]; exact rfl) rfl fun W hW => ?_
  obtain ⟨n1, rfl⟩ := hW
  go_wp2_with fail
  refine (store_ok B p cb lv s q.t (F.first + 3 : Nat) t1 _ (bank_drew HB0.out n1) ⟨ht.1, ht.2, by omega, by omega⟩ hlen hs0 hbd).mono ?_
  rintro e w1 ⟨rfl, hs1⟩
  obtain ⟨lv', hb1, hc1, hf1, hfd, hqd⟩ := after_bank HB0.out HF0.out HQ0.out hs1
  have hne := hfd.ne hqd (by decide)
  have a0 : w1.cell? ⟨qb, 0, none⟩ = some (.pointer (some ⟨fb, 0, none⟩)) := hqd.cell 0
  have a2 : w1.cell? ⟨qb, 2, none⟩ = some (.int .u8 q.ph) := hqd.cell 2
  have a4 : w1.cell? ⟨qb, 4, none⟩ = some (.int .u64 q.l) := hqd.cell 4
  have b2 : w1.cell? ⟨fb, 2, none⟩ = some (.int .i64 F.n) := hfd.cell 2
  have b4 : w1.cell? ⟨fb, 4, none⟩ = some (.int .u64 t1) := hfd.cell 4
  have b6 : w1.cell? ⟨fb, 6, none⟩ = some (.bool F.pushing) := hfd.cell 6
  have x6 := hfd.free 6
  have y2 := hqd.free 2
  have y4 := hqd.free 4
  have Hc1 := hid hc1
  have Hfd := hid hfd
  have Hqd := hid hqd
  have Hs1 := hid hs1
  have Hf1 := hid hf1
  have Hb1 := hid hb1
  clear f0 f1 f2 f4 g4 q0 q1 q2 q3 q4 hc1 hfd hqd hs1 hf1 hb1
  go_wp2_with fail
  repeat (first | (refine Mix.mix_q (by simp only [List.getElem?_toArray, List.getElem?_cons_zero, List.getElem?_cons_succ]; exact rfl) rfl ?_; go_big_quiet_step (fail); refine wpQuiet_nil ?_) | (refine Mix.mix_p (by simp only [List.getElem?_toArray, List.getElem?_cons_zero, List.getElem?_cons_succ]; exact rfl) rfl rfl ?_; go_big_quiet_step (fail); refine wpQuiet_nil ?_))
  intro n2
  go_wp2_with fail
  go_ret2
  rw [← Hph.out]
  refine pres_close n2 Hh.out Hb1.out ((HC0.out.mono fun _ _ h => .inr (.inl h)).trans Hc1.out (fun _ _ h => .inl h)) ?_ ?_ Hqd.out (List.length_set ..) rfl
  · rcases Hf1.out with e | e
    · exact .inl e
    · exact .inr fun b hb => by have := e b hb; rw [HZ0.out] at this; exact this
  · have e1 : cHead (s.store q.t (F.first + 3 : Nat) t1) F = cHead s F := lk_set_ne _ (by rw [Int.toNat_natCast]; omega)
    have e2 : cTail (s.store q.t (F.first + 3 : Nat) t1) F = t1 := by
      show lk (s.vs.set ((F.first + 3 : Nat) : Int).toNat t1) (F.first + 3) = t1
      rw [Int.toNat_natCast]; exact lk_set _ (by omega)
    unfold fdCells
    rw [e1, e2]
    exact Hfd.out
end

/-- A step of a push. -/
theorem pstep_any (B p cb fb qb : Nat) (lv : Value) (s : BS) (F : Fd) (q : Pd) (w : World) (h : FeedM B w p cb fb lv s F) (hq : Blk w qb 106 (pdCells fb q)) (ht : 0 ≤ q.t ∧ q.t < 16) (hlen : s.lg.length < 1000000) (hB : B ≤ w.heap.size) (hp : 0 ≤ q.p ∧ q.p < 18446744073709551616)
    (hph : q.ph = 26 ∨ q.ph = 27 ∨ q.ph = 28 ∨ q.ph = 29 ∨ q.ph = 30 ∨ q.ph = 31 ∨ q.ph = 32) : Calls Try.prog 32 #[.pointer (some ⟨qb, 0, none⟩)] w (PRes B p cb fb qb lv F q (pstep s F q) w) := by
  rcases hph with hph | hph | hph | hph | hph | hph | hph
  · by_cases hc : cAct s F = 0
    · exact pstep26a B p cb fb qb lv s F q w h hq ht hlen hB hp hph hc
    · exact pstep26b B p cb fb qb lv s F q w h hq ht hlen hB hp hph hc
  · by_cases hc : cLag s F = 0
    · exact pstep27a B p cb fb qb lv s F q w h hq ht hlen hB hp hph hc
    · exact pstep27b B p cb fb qb lv s F q w h hq ht hlen hB hp hph hc
  · by_cases hc : cLag s F = q.l
    · exact pstep28a B p cb fb qb lv s F q w h hq ht hlen hB hp hph hc
    · exact pstep28b B p cb fb qb lv s F q w h hq ht hlen hB hp hph hc
  · by_cases hc : w64 (cTail s F - cHead s F) < F.n
    · exact pstep29a B p cb fb qb lv s F q w h hq ht hlen hB hp hph hc
    · exact pstep29b B p cb fb qb lv s F q w h hq ht hlen hB hp hph hc
  · exact pstep30 B p cb fb qb lv s F q w h hq ht hlen hB hp hph
  · exact pstep31 B p cb fb qb lv s F q w h hq ht hlen hB hp hph
  · exact pstep32 B p cb fb qb lv s F q w h hq ht hlen hB hp hph
end Go.Proofs.Ytonjbofdmmnpdaa
