/- The steps of the reference's pushes. -/
import Derived.Test.YtonjbofdmmnpdaaRFA
import Derived.Test.YtonjbofdmmnpdaaFsL
namespace Go.Proofs.Ytonjbofdmmnpdaa
open Go.RowKit
set_option linter.unusedVariables false
set_option linter.unusedSimpArgs false
set_option linter.unusedSectionVars false

def RPRes (B rp vb rf rb : Nat) (mv : Value) (F : Fd) (q : Pd) (o : BS × Int × Int) (w : World) (e : Ending) (w' : World) : Prop :=
  e = .returned (.tuple #[.int .u8 q.ph, .bool (o.2.1 == 0)]) ∧ ∃ mv', RFeedM B w' rp vb rf mv' o.1 (F.psh (o.2.1 != 0)) ∧ Blk w' rb 116 (rpdCells rf (q.next o)) ∧ Ch (fun b => FP rp vb mv b ∨ b = rf ∨ b = rb) w w' ∧ Fresh w mv mv'
theorem rpres_close {B rp vb rf rb : Nat} {mv mv' : Value} {s s' : BS} {F : Fd} {q : Pd} {l ph : Int} {w W w' : World} {fc rc : Array Value} (nx : Int) (h : RFeedM B w rp vb rf mv s F) (ha : AtR B rp vb rf rb mv mv' 116 s'.vs s'.lg fc rc w W) (hfc : fc = rfdCells rp F) (hrc : rc.setIfInBounds 4 (.int .u8 nx) = rpdCells rf (q.next (s', nx, l))) (hph : q.ph = ph)
    (hl : s'.vs.length = s.vs.length) (hw : w' = ((W.setCell ⟨rb, 4, none⟩ (.int .u8 nx)).setCell ⟨rf, 4, none⟩ (.bool (nx != 0)))) :
    RPRes B rp vb rf rb mv F q (s', nx, l) w (.returned (.tuple #[.int .u8 ph, .bool (nx == 0)])) w' := by
  subst hw hfc hph
  have h2 := (ha.putR 4 (.int .u8 nx)).putF 4 (.bool (nx != 0))
  refine ⟨rfl, mv', ⟨h2.b, h2.f, ⟨by rw [hl]; exact h.ok.room, h.ok.n1, h.ok.n2⟩, h.bf⟩, ?_, h2.c, h2.y⟩
  rw [hrc] at h2
  exact h2.r
theorem cas_len (s : BS) (t c o v : Int) : (s.cas t c o v).vs.length = s.vs.length := by
  rw [cas_vs]
  split
  · exact List.length_set ..
  · rfl
section
variable (B rp vb rf rb : Nat) (mv : Value) (s : BS) (F : Fd) (q : Pd) (w : World) (h : RFeedM B w rp vb rf mv s F) (hq : Blk w rb 116 (rpdCells rf q)) (ht : 0 ≤ q.t ∧ q.t < 16) (hlen : s.lg.length < 1000000) (hB : B ≤ w.heap.size) (hH : 0 ≤ cHead s F ∧ cHead s F ≤ cTail s F ∧ cTail s F ≤ 1000000)
include h hq ht hlen hB hH
set_option maxRecDepth 100000 in
set_option maxHeartbeats 1000000 in
theorem rps26a (hph : q.ph = 26) (hc : cAct s F = 0) : Calls Try.prog 40 #[.pointer (some ⟨rb, 0, none⟩)] w (RPRes B rp vb rf rb mv F q (pstep s F q) w) := by
  have he : pstep s F q = (s.load q.t F.first, 0, q.l) := by unfold pstep;  rw [if_pos hph, if_pos hc]
  rw [he]
  clear he
  have hA := AtR.start h hq
  have hn := h.hn
  have hn1 := h.ok.n1
  have hn2 := h.ok.n2
  have hroom := h.ok.room
  have f0 : w.cell? ⟨rf, 0, none⟩ = some (.pointer (some ⟨rp, 0, none⟩)) := hA.f.cell 0
  have f1 : w.cell? ⟨rf, 1, none⟩ = some (.int .i64 F.first) := hA.f.cell 1
  have f2 : w.cell? ⟨rf, 2, none⟩ = some (.int .i64 F.n) := hA.f.cell 2
  have f3 : w.cell? ⟨rf, 3, none⟩ = some (.int .u64 F.last) := hA.f.cell 3
  have f4 : w.cell? ⟨rf, 4, none⟩ = some (.bool F.pushing) := hA.f.cell 4
  have f5 : w.cell? ⟨rf, 5, none⟩ = some (.bool F.receiving) := hA.f.cell 5
  have a0 : w.cell? ⟨rb, 0, none⟩ = some (.pointer (some ⟨rf, 0, none⟩)) := hA.r.cell 0
  have a1 : w.cell? ⟨rb, 1, none⟩ = some (.int .i64 q.t) := hA.r.cell 1
  have a2 : w.cell? ⟨rb, 2, none⟩ = some (.int .u64 q.p) := hA.r.cell 2
  have a3 : w.cell? ⟨rb, 3, none⟩ = some (.int .u64 q.l) := hA.r.cell 3
  have a4 : w.cell? ⟨rb, 4, none⟩ = some (.int .u8 q.ph) := hA.r.cell 4
  have gf4 := hA.f.free 4
  have gf5 := hA.f.free 5
  have ga0 := hA.r.free 0
  have ga1 := hA.r.free 1
  have ga2 := hA.r.free 2
  have ga3 := hA.r.free 3
  have ga4 := hA.r.free 4
  have hne := hA.ne
  have bp0 : (q.ph == 0) = false := by rw [beq_eq_false_iff_ne, hph]; decide
  have bp26 : (q.ph == 26) = true := by rw [beq_iff_eq]; exact hph
  have bp27 : (q.ph == 27) = false := by rw [beq_eq_false_iff_ne, hph]; decide
  have bp28 : (q.ph == 28) = false := by rw [beq_eq_false_iff_ne, hph]; decide
  have bp29 : (q.ph == 29) = false := by rw [beq_eq_false_iff_ne, hph]; decide
  have bp30 : (q.ph == 30) = false := by rw [beq_eq_false_iff_ne, hph]; decide
  have bp31 : (q.ph == 31) = false := by rw [beq_eq_false_iff_ne, hph]; decide
  have bp32 : (q.ph == 32) = false := by rw [beq_eq_false_iff_ne, hph]; decide
  have bc : (lk s.vs F.first != 0) = false := by rw [bne_eq_false_iff_eq]; exact hc
  clear hc
  have Hph := hid hph
  have Hh := hid h
  have HA := hid hA
  clear hph hA
  go_enter Try.func40, Try.ntmps40
  go_wp2_with fail
  go_quiet (fail)
  go_wp2_with fail
  obtain ⟨W0, hW0⟩ : ∃ W0, W0 = w.drewN nq := ⟨_, rfl⟩
  have hA0 := HA.out.drewN nq
  rw [← hW0] at hA0 ⊢
  have M0 := hid (show RFeedM B W0 rp vb rf mv s F from by rw [hW0]; exact Hh.out.drewN nq)
  have HW0 := hid hW0
  have hB0 : B ≤ W0.heap.size := by rw [hW0]; exact hB
  clear hW0
  clear f0 f1 f2 f3 f4 f5 a0 a1 a2 a3 a4 gf4 gf5 ga0 ga1 ga2 ga3 ga4 hne
  have f0 : W0.cell? ⟨rf, 0, none⟩ = some (.pointer (some ⟨rp, 0, none⟩)) := hA0.f.cell 0
  have f1 : W0.cell? ⟨rf, 1, none⟩ = some (.int .i64 F.first) := hA0.f.cell 1
  have f2 : W0.cell? ⟨rf, 2, none⟩ = some (.int .i64 F.n) := hA0.f.cell 2
  have f3 : W0.cell? ⟨rf, 3, none⟩ = some (.int .u64 F.last) := hA0.f.cell 3
  have f4 : W0.cell? ⟨rf, 4, none⟩ = some (.bool F.pushing) := hA0.f.cell 4
  have f5 : W0.cell? ⟨rf, 5, none⟩ = some (.bool F.receiving) := hA0.f.cell 5
  have a0 : W0.cell? ⟨rb, 0, none⟩ = some (.pointer (some ⟨rf, 0, none⟩)) := hA0.r.cell 0
  have a1 : W0.cell? ⟨rb, 1, none⟩ = some (.int .i64 q.t) := hA0.r.cell 1
  have a2 : W0.cell? ⟨rb, 2, none⟩ = some (.int .u64 q.p) := hA0.r.cell 2
  have a3 : W0.cell? ⟨rb, 3, none⟩ = some (.int .u64 q.l) := hA0.r.cell 3
  have a4 : W0.cell? ⟨rb, 4, none⟩ = some (.int .u8 q.ph) := hA0.r.cell 4
  have gf4 := hA0.f.free 4
  have gf5 := hA0.f.free 5
  have ga0 := hA0.r.free 0
  have ga1 := hA0.r.free 1
  have ga2 := hA0.r.free 2
  have ga3 := hA0.r.free 3
  have ga4 := hA0.r.free 4
  have hne := hA0.ne
  have HA0 := hid hA0
  clear hA0
  refine Mix.wp_region_mix (fun _ => True) (fun i => ([0, 0, 0, 0, 0, 0, 0, 0, 0, 0, 0, 0, 2, 0, 0, 0, 0, 0] : List Nat).getD i 0) [0, 1, 2, 3, 4, 5, 6, 7, 8, 9, 10, 11, 12, 13, 14, 15, 16, 17] (by kernel_rfl) (by kernel_rfl) ?_
  repeat (first | (refine Mix.mix_q (by simp only [List.getElem?_toArray, List.getElem?_cons_zero, List.getElem?_cons_succ]; exact rfl) rfl ?_; go_big_quiet_step (fail); refine wpQuiet_nil ?_) | (refine Mix.mix_p (by simp only [List.getElem?_toArray, List.getElem?_cons_zero, List.getElem?_cons_succ]; exact rfl) rfl rfl ?_; go_big_quiet_step (fail); refine wpQuiet_nil ?_))
  refine Mix.mix_e (by simp only [List.getElem?_toArray, List.getElem?_cons_zero, List.getElem?_cons_succ]; exact rfl) rfl fun W hW => ?_
  obtain ⟨n1, rfl⟩ := hW
  go_wp2_with fail
  refine (rload_ok B rp vb mv s q.t (F.first : Nat) _ (rbank_drew HA0.out.b n1) hlen hB0 ⟨ht.1, ht.2, by omega, by omega⟩).mono ?_
  rintro e w1 ⟨rfl, hs1⟩
  obtain ⟨mv', hA1⟩ := (HA0.out.drewN n1).call hs1
  rw [Int.toNat_natCast]
  clear f0 f1 f2 f3 f4 f5 a0 a1 a2 a3 a4 gf4 gf5 ga0 ga1 ga2 ga3 ga4 hne
  have f0 : w1.cell? ⟨rf, 0, none⟩ = some (.pointer (some ⟨rp, 0, none⟩)) := hA1.f.cell 0
  have f1 : w1.cell? ⟨rf, 1, none⟩ = some (.int .i64 F.first) := hA1.f.cell 1
  have f2 : w1.cell? ⟨rf, 2, none⟩ = some (.int .i64 F.n) := hA1.f.cell 2
  have f3 : w1.cell? ⟨rf, 3, none⟩ = some (.int .u64 F.last) := hA1.f.cell 3
  have f4 : w1.cell? ⟨rf, 4, none⟩ = some (.bool F.pushing) := hA1.f.cell 4
  have f5 : w1.cell? ⟨rf, 5, none⟩ = some (.bool F.receiving) := hA1.f.cell 5
  have a0 : w1.cell? ⟨rb, 0, none⟩ = some (.pointer (some ⟨rf, 0, none⟩)) := hA1.r.cell 0
  have a1 : w1.cell? ⟨rb, 1, none⟩ = some (.int .i64 q.t) := hA1.r.cell 1
  have a2 : w1.cell? ⟨rb, 2, none⟩ = some (.int .u64 q.p) := hA1.r.cell 2
  have a3 : w1.cell? ⟨rb, 3, none⟩ = some (.int .u64 q.l) := hA1.r.cell 3
  have a4 : w1.cell? ⟨rb, 4, none⟩ = some (.int .u8 q.ph) := hA1.r.cell 4
  have gf4 := hA1.f.free 4
  have gf5 := hA1.f.free 5
  have ga0 := hA1.r.free 0
  have ga1 := hA1.r.free 1
  have ga2 := hA1.r.free 2
  have ga3 := hA1.r.free 3
  have ga4 := hA1.r.free 4
  have hne := hA1.ne
  have HA1 := hid hA1
  have Hs1 := hid hs1
  clear hA1 hs1
  go_wp2_with fail
  repeat (first | (refine Mix.mix_q (by simp only [List.getElem?_toArray, List.getElem?_cons_zero, List.getElem?_cons_succ]; exact rfl) rfl ?_; go_big_quiet_step (fail); refine wpQuiet_nil ?_) | (refine Mix.mix_p (by simp only [List.getElem?_toArray, List.getElem?_cons_zero, List.getElem?_cons_succ]; exact rfl) rfl rfl ?_; go_big_quiet_step (fail); refine wpQuiet_nil ?_))
  intro n2
  go_wp2_with fail
  go_ret2
  exact rpres_close 0 Hh.out (HA1.out.drewN n2) rfl rfl rfl rfl (by rfl)
set_option maxRecDepth 100000 in
set_option maxHeartbeats 1000000 in
theorem rps26b (hph : q.ph = 26) (hc : cAct s F ≠ 0) : Calls Try.prog 40 #[.pointer (some ⟨rb, 0, none⟩)] w (RPRes B rp vb rf rb mv F q (pstep s F q) w) := by
  have he : pstep s F q = (s.load q.t F.first, 27, q.l) := by unfold pstep;  rw [if_pos hph, if_neg hc]
  rw [he]
  clear he
  have hA := AtR.start h hq
  have hn := h.hn
  have hn1 := h.ok.n1
  have hn2 := h.ok.n2
  have hroom := h.ok.room
  have f0 : w.cell? ⟨rf, 0, none⟩ = some (.pointer (some ⟨rp, 0, none⟩)) := hA.f.cell 0
  have f1 : w.cell? ⟨rf, 1, none⟩ = some (.int .i64 F.first) := hA.f.cell 1
  have f2 : w.cell? ⟨rf, 2, none⟩ = some (.int .i64 F.n) := hA.f.cell 2
  have f3 : w.cell? ⟨rf, 3, none⟩ = some (.int .u64 F.last) := hA.f.cell 3
  have f4 : w.cell? ⟨rf, 4, none⟩ = some (.bool F.pushing) := hA.f.cell 4
  have f5 : w.cell? ⟨rf, 5, none⟩ = some (.bool F.receiving) := hA.f.cell 5
  have a0 : w.cell? ⟨rb, 0, none⟩ = some (.pointer (some ⟨rf, 0, none⟩)) := hA.r.cell 0
  have a1 : w.cell? ⟨rb, 1, none⟩ = some (.int .i64 q.t) := hA.r.cell 1
  have a2 : w.cell? ⟨rb, 2, none⟩ = some (.int .u64 q.p) := hA.r.cell 2
  have a3 : w.cell? ⟨rb, 3, none⟩ = some (.int .u64 q.l) := hA.r.cell 3
  have a4 : w.cell? ⟨rb, 4, none⟩ = some (.int .u8 q.ph) := hA.r.cell 4
  have gf4 := hA.f.free 4
  have gf5 := hA.f.free 5
  have ga0 := hA.r.free 0
  have ga1 := hA.r.free 1
  have ga2 := hA.r.free 2
  have ga3 := hA.r.free 3
  have ga4 := hA.r.free 4
  have hne := hA.ne
  have bp0 : (q.ph == 0) = false := by rw [beq_eq_false_iff_ne, hph]; decide
  have bp26 : (q.ph == 26) = true := by rw [beq_iff_eq]; exact hph
  have bp27 : (q.ph == 27) = false := by rw [beq_eq_false_iff_ne, hph]; decide
  have bp28 : (q.ph == 28) = false := by rw [beq_eq_false_iff_ne, hph]; decide
  have bp29 : (q.ph == 29) = false := by rw [beq_eq_false_iff_ne, hph]; decide
  have bp30 : (q.ph == 30) = false := by rw [beq_eq_false_iff_ne, hph]; decide
  have bp31 : (q.ph == 31) = false := by rw [beq_eq_false_iff_ne, hph]; decide
  have bp32 : (q.ph == 32) = false := by rw [beq_eq_false_iff_ne, hph]; decide
  have bc : (lk s.vs F.first != 0) = true := by rw [bne_iff_ne]; exact hc
  clear hc
  have Hph := hid hph
  have Hh := hid h
  have HA := hid hA
  clear hph hA
  go_enter Try.func40, Try.ntmps40
  go_wp2_with fail
  go_quiet (fail)
  go_wp2_with fail
  obtain ⟨W0, hW0⟩ : ∃ W0, W0 = w.drewN nq := ⟨_, rfl⟩
  have hA0 := HA.out.drewN nq
  rw [← hW0] at hA0 ⊢
  have M0 := hid (show RFeedM B W0 rp vb rf mv s F from by rw [hW0]; exact Hh.out.drewN nq)
  have HW0 := hid hW0
  have hB0 : B ≤ W0.heap.size := by rw [hW0]; exact hB
  clear hW0
  clear f0 f1 f2 f3 f4 f5 a0 a1 a2 a3 a4 gf4 gf5 ga0 ga1 ga2 ga3 ga4 hne
  have f0 : W0.cell? ⟨rf, 0, none⟩ = some (.pointer (some ⟨rp, 0, none⟩)) := hA0.f.cell 0
  have f1 : W0.cell? ⟨rf, 1, none⟩ = some (.int .i64 F.first) := hA0.f.cell 1
  have f2 : W0.cell? ⟨rf, 2, none⟩ = some (.int .i64 F.n) := hA0.f.cell 2
  have f3 : W0.cell? ⟨rf, 3, none⟩ = some (.int .u64 F.last) := hA0.f.cell 3
  have f4 : W0.cell? ⟨rf, 4, none⟩ = some (.bool F.pushing) := hA0.f.cell 4
  have f5 : W0.cell? ⟨rf, 5, none⟩ = some (.bool F.receiving) := hA0.f.cell 5
  have a0 : W0.cell? ⟨rb, 0, none⟩ = some (.pointer (some ⟨rf, 0, none⟩)) := hA0.r.cell 0
  have a1 : W0.cell? ⟨rb, 1, none⟩ = some (.int .i64 q.t) := hA0.r.cell 1
  have a2 : W0.cell? ⟨rb, 2, none⟩ = some (.int .u64 q.p) := hA0.r.cell 2
  have a3 : W0.cell? ⟨rb, 3, none⟩ = some (.int .u64 q.l) := hA0.r.cell 3
  have a4 : W0.cell? ⟨rb, 4, none⟩ = some (.int .u8 q.ph) := hA0.r.cell 4
  have gf4 := hA0.f.free 4
  have gf5 := hA0.f.free 5
  have ga0 := hA0.r.free 0
  have ga1 := hA0.r.free 1
  have ga2 := hA0.r.free 2
  have ga3 := hA0.r.free 3
  have ga4 := hA0.r.free 4
  have hne := hA0.ne
  have HA0 := hid hA0
  clear hA0
  refine Mix.wp_region_mix (fun _ => True) (fun i => ([0, 0, 0, 0, 0, 0, 0, 0, 0, 0, 0, 0, 2, 0, 0, 0, 0, 0] : List Nat).getD i 0) [0, 1, 2, 3, 4, 5, 6, 7, 8, 9, 10, 11, 12, 13, 14, 15, 16, 17] (by kernel_rfl) (by kernel_rfl) ?_
  repeat (first | (refine Mix.mix_q (by simp only [List.getElem?_toArray, List.getElem?_cons_zero, List.getElem?_cons_succ]; exact rfl) rfl ?_; go_big_quiet_step (fail); refine wpQuiet_nil ?_) | (refine Mix.mix_p (by simp only [List.getElem?_toArray, List.getElem?_cons_zero, List.getElem?_cons_succ]; exact rfl) rfl rfl ?_; go_big_quiet_step (fail); refine wpQuiet_nil ?_))
  refine Mix.mix_e (by simp only [List.getElem?_toArray, List.getElem?_cons_zero, List.getElem?_cons_succ]; exact rfl) rfl fun W hW => ?_
  obtain ⟨n1, rfl⟩ := hW
  go_wp2_with fail
  refine (rload_ok B rp vb mv s q.t (F.first : Nat) _ (rbank_drew HA0.out.b n1) hlen hB0 ⟨ht.1, ht.2, by omega, by omega⟩).mono ?_
  rintro e w1 ⟨rfl, hs1⟩
  obtain ⟨mv', hA1⟩ := (HA0.out.drewN n1).call hs1
  rw [Int.toNat_natCast]
  clear f0 f1 f2 f3 f4 f5 a0 a1 a2 a3 a4 gf4 gf5 ga0 ga1 ga2 ga3 ga4 hne
  have f0 : w1.cell? ⟨rf, 0, none⟩ = some (.pointer (some ⟨rp, 0, none⟩)) := hA1.f.cell 0
  have f1 : w1.cell? ⟨rf, 1, none⟩ = some (.int .i64 F.first) := hA1.f.cell 1
  have f2 : w1.cell? ⟨rf, 2, none⟩ = some (.int .i64 F.n) := hA1.f.cell 2
  have f3 : w1.cell? ⟨rf, 3, none⟩ = some (.int .u64 F.last) := hA1.f.cell 3
  have f4 : w1.cell? ⟨rf, 4, none⟩ = some (.bool F.pushing) := hA1.f.cell 4
  have f5 : w1.cell? ⟨rf, 5, none⟩ = some (.bool F.receiving) := hA1.f.cell 5
  have a0 : w1.cell? ⟨rb, 0, none⟩ = some (.pointer (some ⟨rf, 0, none⟩)) := hA1.r.cell 0
  have a1 : w1.cell? ⟨rb, 1, none⟩ = some (.int .i64 q.t) := hA1.r.cell 1
  have a2 : w1.cell? ⟨rb, 2, none⟩ = some (.int .u64 q.p) := hA1.r.cell 2
  have a3 : w1.cell? ⟨rb, 3, none⟩ = some (.int .u64 q.l) := hA1.r.cell 3
  have a4 : w1.cell? ⟨rb, 4, none⟩ = some (.int .u8 q.ph) := hA1.r.cell 4
  have gf4 := hA1.f.free 4
  have gf5 := hA1.f.free 5
  have ga0 := hA1.r.free 0
  have ga1 := hA1.r.free 1
  have ga2 := hA1.r.free 2
  have ga3 := hA1.r.free 3
  have ga4 := hA1.r.free 4
  have hne := hA1.ne
  have HA1 := hid hA1
  have Hs1 := hid hs1
  clear hA1 hs1
  go_wp2_with fail
  repeat (first | (refine Mix.mix_q (by simp only [List.getElem?_toArray, List.getElem?_cons_zero, List.getElem?_cons_succ]; exact rfl) rfl ?_; go_big_quiet_step (fail); refine wpQuiet_nil ?_) | (refine Mix.mix_p (by simp only [List.getElem?_toArray, List.getElem?_cons_zero, List.getElem?_cons_succ]; exact rfl) rfl rfl ?_; go_big_quiet_step (fail); refine wpQuiet_nil ?_))
  intro n2
  go_wp2_with fail
  go_ret2
  exact rpres_close 27 Hh.out (HA1.out.drewN n2) rfl rfl rfl rfl (by rfl)
set_option maxRecDepth 100000 in
set_option maxHeartbeats 1000000 in
theorem rps27a (hph : q.ph = 27) (hc : cLag s F = 0) : Calls Try.prog 40 #[.pointer (some ⟨rb, 0, none⟩)] w (RPRes B rp vb rf rb mv F q (pstep s F q) w) := by
  have he : pstep s F q = (s.load q.t (F.first + 1 : Nat), 29, cLag s F) := by unfold pstep; rw [if_neg (by rw [hph]; decide)]; rw [if_pos hph, if_pos hc]
  rw [he]
  clear he
  have hA := AtR.start h hq
  have hn := h.hn
  have hn1 := h.ok.n1
  have hn2 := h.ok.n2
  have hroom := h.ok.room
  have f0 : w.cell? ⟨rf, 0, none⟩ = some (.pointer (some ⟨rp, 0, none⟩)) := hA.f.cell 0
  have f1 : w.cell? ⟨rf, 1, none⟩ = some (.int .i64 F.first) := hA.f.cell 1
  have f2 : w.cell? ⟨rf, 2, none⟩ = some (.int .i64 F.n) := hA.f.cell 2
  have f3 : w.cell? ⟨rf, 3, none⟩ = some (.int .u64 F.last) := hA.f.cell 3
  have f4 : w.cell? ⟨rf, 4, none⟩ = some (.bool F.pushing) := hA.f.cell 4
  have f5 : w.cell? ⟨rf, 5, none⟩ = some (.bool F.receiving) := hA.f.cell 5
  have a0 : w.cell? ⟨rb, 0, none⟩ = some (.pointer (some ⟨rf, 0, none⟩)) := hA.r.cell 0
  have a1 : w.cell? ⟨rb, 1, none⟩ = some (.int .i64 q.t) := hA.r.cell 1
  have a2 : w.cell? ⟨rb, 2, none⟩ = some (.int .u64 q.p) := hA.r.cell 2
  have a3 : w.cell? ⟨rb, 3, none⟩ = some (.int .u64 q.l) := hA.r.cell 3
  have a4 : w.cell? ⟨rb, 4, none⟩ = some (.int .u8 q.ph) := hA.r.cell 4
  have gf4 := hA.f.free 4
  have gf5 := hA.f.free 5
  have ga0 := hA.r.free 0
  have ga1 := hA.r.free 1
  have ga2 := hA.r.free 2
  have ga3 := hA.r.free 3
  have ga4 := hA.r.free 4
  have hne := hA.ne
  have bp0 : (q.ph == 0) = false := by rw [beq_eq_false_iff_ne, hph]; decide
  have bp26 : (q.ph == 26) = false := by rw [beq_eq_false_iff_ne, hph]; decide
  have bp27 : (q.ph == 27) = true := by rw [beq_iff_eq]; exact hph
  have bp28 : (q.ph == 28) = false := by rw [beq_eq_false_iff_ne, hph]; decide
  have bp29 : (q.ph == 29) = false := by rw [beq_eq_false_iff_ne, hph]; decide
  have bp30 : (q.ph == 30) = false := by rw [beq_eq_false_iff_ne, hph]; decide
  have bp31 : (q.ph == 31) = false := by rw [beq_eq_false_iff_ne, hph]; decide
  have bp32 : (q.ph == 32) = false := by rw [beq_eq_false_iff_ne, hph]; decide
  have bc : (lk s.vs (F.first + 1) != 0) = false := by rw [bne_eq_false_iff_eq]; exact hc
  clear hc
  have Hph := hid hph
  have Hh := hid h
  have HA := hid hA
  clear hph hA
  go_enter Try.func40, Try.ntmps40
  go_wp2_with fail
  go_quiet (fail)
  go_wp2_with fail
  obtain ⟨W0, hW0⟩ : ∃ W0, W0 = w.drewN nq := ⟨_, rfl⟩
  have hA0 := HA.out.drewN nq
  rw [← hW0] at hA0 ⊢
  have M0 := hid (show RFeedM B W0 rp vb rf mv s F from by rw [hW0]; exact Hh.out.drewN nq)
  have HW0 := hid hW0
  have hB0 : B ≤ W0.heap.size := by rw [hW0]; exact hB
  clear hW0
  clear f0 f1 f2 f3 f4 f5 a0 a1 a2 a3 a4 gf4 gf5 ga0 ga1 ga2 ga3 ga4 hne
  have f0 : W0.cell? ⟨rf, 0, none⟩ = some (.pointer (some ⟨rp, 0, none⟩)) := hA0.f.cell 0
  have f1 : W0.cell? ⟨rf, 1, none⟩ = some (.int .i64 F.first) := hA0.f.cell 1
  have f2 : W0.cell? ⟨rf, 2, none⟩ = some (.int .i64 F.n) := hA0.f.cell 2
  have f3 : W0.cell? ⟨rf, 3, none⟩ = some (.int .u64 F.last) := hA0.f.cell 3
  have f4 : W0.cell? ⟨rf, 4, none⟩ = some (.bool F.pushing) := hA0.f.cell 4
  have f5 : W0.cell? ⟨rf, 5, none⟩ = some (.bool F.receiving) := hA0.f.cell 5
  have a0 : W0.cell? ⟨rb, 0, none⟩ = some (.pointer (some ⟨rf, 0, none⟩)) := hA0.r.cell 0
  have a1 : W0.cell? ⟨rb, 1, none⟩ = some (.int .i64 q.t) := hA0.r.cell 1
  have a2 : W0.cell? ⟨rb, 2, none⟩ = some (.int .u64 q.p) := hA0.r.cell 2
  have a3 : W0.cell? ⟨rb, 3, none⟩ = some (.int .u64 q.l) := hA0.r.cell 3
  have a4 : W0.cell? ⟨rb, 4, none⟩ = some (.int .u8 q.ph) := hA0.r.cell 4
  have gf4 := hA0.f.free 4
  have gf5 := hA0.f.free 5
  have ga0 := hA0.r.free 0
  have ga1 := hA0.r.free 1
  have ga2 := hA0.r.free 2
  have ga3 := hA0.r.free 3
  have ga4 := hA0.r.free 4
  have hne := hA0.ne
  have HA0 := hid hA0
  clear hA0
  refine Mix.wp_region_mix (fun _ => True) (fun i => ([1, 0, 0, 0, 0, 0, 0, 0, 0, 0, 0, 0, 0, 0, 2, 0, 0, 1, 0, 0, 2] : List Nat).getD i 0) [0, 1, 2, 3, 4, 5, 6, 7, 8, 9, 10, 11, 12, 13, 14, 15, 16, 17, 18, 19, 20] (by kernel_rfl) (by kernel_rfl) ?_
  repeat (first | (refine Mix.mix_q (by simp only [List.getElem?_toArray, List.getElem?_cons_zero, List.getElem?_cons_succ]; exact rfl) rfl ?_; go_big_quiet_step (fail); refine wpQuiet_nil ?_) | (refine Mix.mix_p (by simp only [List.getElem?_toArray, List.getElem?_cons_zero, List.getElem?_cons_succ]; exact rfl) rfl rfl ?_; go_big_quiet_step (fail); refine wpQuiet_nil ?_))
  refine Mix.mix_e (by simp only [List.getElem?_toArray, List.getElem?_cons_zero, List.getElem?_cons_succ]; exact rfl) rfl fun W hW => ?_
  obtain ⟨n1, rfl⟩ := hW
  go_wp2_with fail
  refine (rload_ok B rp vb mv s q.t (F.first + 1 : Nat) _ (rbank_drew HA0.out.b n1) hlen hB0 ⟨ht.1, ht.2, by omega, by omega⟩).mono ?_
  rintro e w1 ⟨rfl, hs1⟩
  obtain ⟨mv', hA1⟩ := (HA0.out.drewN n1).call hs1
  rw [Int.toNat_natCast]
  clear f0 f1 f2 f3 f4 f5 a0 a1 a2 a3 a4 gf4 gf5 ga0 ga1 ga2 ga3 ga4 hne
  have f0 : w1.cell? ⟨rf, 0, none⟩ = some (.pointer (some ⟨rp, 0, none⟩)) := hA1.f.cell 0
  have f1 : w1.cell? ⟨rf, 1, none⟩ = some (.int .i64 F.first) := hA1.f.cell 1
  have f2 : w1.cell? ⟨rf, 2, none⟩ = some (.int .i64 F.n) := hA1.f.cell 2
  have f3 : w1.cell? ⟨rf, 3, none⟩ = some (.int .u64 F.last) := hA1.f.cell 3
  have f4 : w1.cell? ⟨rf, 4, none⟩ = some (.bool F.pushing) := hA1.f.cell 4
  have f5 : w1.cell? ⟨rf, 5, none⟩ = some (.bool F.receiving) := hA1.f.cell 5
  have a0 : w1.cell? ⟨rb, 0, none⟩ = some (.pointer (some ⟨rf, 0, none⟩)) := hA1.r.cell 0
  have a1 : w1.cell? ⟨rb, 1, none⟩ = some (.int .i64 q.t) := hA1.r.cell 1
  have a2 : w1.cell? ⟨rb, 2, none⟩ = some (.int .u64 q.p) := hA1.r.cell 2
  have a3 : w1.cell? ⟨rb, 3, none⟩ = some (.int .u64 q.l) := hA1.r.cell 3
  have a4 : w1.cell? ⟨rb, 4, none⟩ = some (.int .u8 q.ph) := hA1.r.cell 4
  have gf4 := hA1.f.free 4
  have gf5 := hA1.f.free 5
  have ga0 := hA1.r.free 0
  have ga1 := hA1.r.free 1
  have ga2 := hA1.r.free 2
  have ga3 := hA1.r.free 3
  have ga4 := hA1.r.free 4
  have hne := hA1.ne
  have HA1 := hid hA1
  have Hs1 := hid hs1
  clear hA1 hs1
  go_wp2_with fail
  repeat (first | (refine Mix.mix_q (by simp only [List.getElem?_toArray, List.getElem?_cons_zero, List.getElem?_cons_succ]; exact rfl) rfl ?_; go_big_quiet_step (fail); refine wpQuiet_nil ?_) | (refine Mix.mix_p (by simp only [List.getElem?_toArray, List.getElem?_cons_zero, List.getElem?_cons_succ]; exact rfl) rfl rfl ?_; go_big_quiet_step (fail); refine wpQuiet_nil ?_))
  refine Mix.mix_e (by simp only [List.getElem?_toArray, List.getElem?_cons_zero, List.getElem?_cons_succ]; exact rfl) rfl fun W hW => ?_
  obtain ⟨n2, rfl⟩ := hW
  go_wp2_with fail
  refine Mix.mix_world fun w2 hw2 => ?_
  have hA2 := (HA1.out.drewN n2).putR 3 (.int .u64 (lk s.vs (F.first + 1)))
  rw [← hw2] at hA2
  clear f0 f1 f2 f3 f4 f5 a0 a1 a2 a3 a4 gf4 gf5 ga0 ga1 ga2 ga3 ga4 hne
  clear hw2
  have f0 : w2.cell? ⟨rf, 0, none⟩ = some (.pointer (some ⟨rp, 0, none⟩)) := hA2.f.cell 0
  have f1 : w2.cell? ⟨rf, 1, none⟩ = some (.int .i64 F.first) := hA2.f.cell 1
  have f2 : w2.cell? ⟨rf, 2, none⟩ = some (.int .i64 F.n) := hA2.f.cell 2
  have f3 : w2.cell? ⟨rf, 3, none⟩ = some (.int .u64 F.last) := hA2.f.cell 3
  have f4 : w2.cell? ⟨rf, 4, none⟩ = some (.bool F.pushing) := hA2.f.cell 4
  have f5 : w2.cell? ⟨rf, 5, none⟩ = some (.bool F.receiving) := hA2.f.cell 5
  have a0 : w2.cell? ⟨rb, 0, none⟩ = some (.pointer (some ⟨rf, 0, none⟩)) := hA2.r.cell 0
  have a1 : w2.cell? ⟨rb, 1, none⟩ = some (.int .i64 q.t) := hA2.r.cell 1
  have a2 : w2.cell? ⟨rb, 2, none⟩ = some (.int .u64 q.p) := hA2.r.cell 2
  have a3 : w2.cell? ⟨rb, 3, none⟩ = some (.int .u64 (lk s.vs (F.first + 1))) := hA2.r.cell 3
  have a4 : w2.cell? ⟨rb, 4, none⟩ = some (.int .u8 q.ph) := hA2.r.cell 4
  have gf4 := hA2.f.free 4
  have gf5 := hA2.f.free 5
  have ga0 := hA2.r.free 0
  have ga1 := hA2.r.free 1
  have ga2 := hA2.r.free 2
  have ga3 := hA2.r.free 3
  have ga4 := hA2.r.free 4
  have hne := hA2.ne
  have HA2 := hid hA2
  clear hA2
  intro n3
  go_wp2_with fail
  go_ret2
  exact rpres_close 29 Hh.out (HA2.out.drewN n3) rfl rfl rfl rfl (by rfl)
set_option maxRecDepth 100000 in
set_option maxHeartbeats 1000000 in
theorem rps27b (hph : q.ph = 27) (hc : cLag s F ≠ 0) : Calls Try.prog 40 #[.pointer (some ⟨rb, 0, none⟩)] w (RPRes B rp vb rf rb mv F q (pstep s F q) w) := by
  have he : pstep s F q = (s.load q.t (F.first + 1 : Nat), 28, cLag s F) := by unfold pstep; rw [if_neg (by rw [hph]; decide)]; rw [if_pos hph, if_neg hc]
  rw [he]
  clear he
  have hA := AtR.start h hq
  have hn := h.hn
  have hn1 := h.ok.n1
  have hn2 := h.ok.n2
  have hroom := h.ok.room
  have f0 : w.cell? ⟨rf, 0, none⟩ = some (.pointer (some ⟨rp, 0, none⟩)) := hA.f.cell 0
  have f1 : w.cell? ⟨rf, 1, none⟩ = some (.int .i64 F.first) := hA.f.cell 1
  have f2 : w.cell? ⟨rf, 2, none⟩ = some (.int .i64 F.n) := hA.f.cell 2
  have f3 : w.cell? ⟨rf, 3, none⟩ = some (.int .u64 F.last) := hA.f.cell 3
  have f4 : w.cell? ⟨rf, 4, none⟩ = some (.bool F.pushing) := hA.f.cell 4
  have f5 : w.cell? ⟨rf, 5, none⟩ = some (.bool F.receiving) := hA.f.cell 5
  have a0 : w.cell? ⟨rb, 0, none⟩ = some (.pointer (some ⟨rf, 0, none⟩)) := hA.r.cell 0
  have a1 : w.cell? ⟨rb, 1, none⟩ = some (.int .i64 q.t) := hA.r.cell 1
  have a2 : w.cell? ⟨rb, 2, none⟩ = some (.int .u64 q.p) := hA.r.cell 2
  have a3 : w.cell? ⟨rb, 3, none⟩ = some (.int .u64 q.l) := hA.r.cell 3
  have a4 : w.cell? ⟨rb, 4, none⟩ = some (.int .u8 q.ph) := hA.r.cell 4
  have gf4 := hA.f.free 4
  have gf5 := hA.f.free 5
  have ga0 := hA.r.free 0
  have ga1 := hA.r.free 1
  have ga2 := hA.r.free 2
  have ga3 := hA.r.free 3
  have ga4 := hA.r.free 4
  have hne := hA.ne
  have bp0 : (q.ph == 0) = false := by rw [beq_eq_false_iff_ne, hph]; decide
  have bp26 : (q.ph == 26) = false := by rw [beq_eq_false_iff_ne, hph]; decide
  have bp27 : (q.ph == 27) = true := by rw [beq_iff_eq]; exact hph
  have bp28 : (q.ph == 28) = false := by rw [beq_eq_false_iff_ne, hph]; decide
  have bp29 : (q.ph == 29) = false := by rw [beq_eq_false_iff_ne, hph]; decide
  have bp30 : (q.ph == 30) = false := by rw [beq_eq_false_iff_ne, hph]; decide
  have bp31 : (q.ph == 31) = false := by rw [beq_eq_false_iff_ne, hph]; decide
  have bp32 : (q.ph == 32) = false := by rw [beq_eq_false_iff_ne, hph]; decide
  have bc : (lk s.vs (F.first + 1) != 0) = true := by rw [bne_iff_ne]; exact hc
  clear hc
  have Hph := hid hph
  have Hh := hid h
  have HA := hid hA
  clear hph hA
  go_enter Try.func40, Try.ntmps40
  go_wp2_with fail
  go_quiet (fail)
  go_wp2_with fail
  obtain ⟨W0, hW0⟩ : ∃ W0, W0 = w.drewN nq := ⟨_, rfl⟩
  have hA0 := HA.out.drewN nq
  rw [← hW0] at hA0 ⊢
  have M0 := hid (show RFeedM B W0 rp vb rf mv s F from by rw [hW0]; exact Hh.out.drewN nq)
  have HW0 := hid hW0
  have hB0 : B ≤ W0.heap.size := by rw [hW0]; exact hB
  clear hW0
  clear f0 f1 f2 f3 f4 f5 a0 a1 a2 a3 a4 gf4 gf5 ga0 ga1 ga2 ga3 ga4 hne
  have f0 : W0.cell? ⟨rf, 0, none⟩ = some (.pointer (some ⟨rp, 0, none⟩)) := hA0.f.cell 0
  have f1 : W0.cell? ⟨rf, 1, none⟩ = some (.int .i64 F.first) := hA0.f.cell 1
  have f2 : W0.cell? ⟨rf, 2, none⟩ = some (.int .i64 F.n) := hA0.f.cell 2
  have f3 : W0.cell? ⟨rf, 3, none⟩ = some (.int .u64 F.last) := hA0.f.cell 3
  have f4 : W0.cell? ⟨rf, 4, none⟩ = some (.bool F.pushing) := hA0.f.cell 4
  have f5 : W0.cell? ⟨rf, 5, none⟩ = some (.bool F.receiving) := hA0.f.cell 5
  have a0 : W0.cell? ⟨rb, 0, none⟩ = some (.pointer (some ⟨rf, 0, none⟩)) := hA0.r.cell 0
  have a1 : W0.cell? ⟨rb, 1, none⟩ = some (.int .i64 q.t) := hA0.r.cell 1
  have a2 : W0.cell? ⟨rb, 2, none⟩ = some (.int .u64 q.p) := hA0.r.cell 2
  have a3 : W0.cell? ⟨rb, 3, none⟩ = some (.int .u64 q.l) := hA0.r.cell 3
  have a4 : W0.cell? ⟨rb, 4, none⟩ = some (.int .u8 q.ph) := hA0.r.cell 4
  have gf4 := hA0.f.free 4
  have gf5 := hA0.f.free 5
  have ga0 := hA0.r.free 0
  have ga1 := hA0.r.free 1
  have ga2 := hA0.r.free 2
  have ga3 := hA0.r.free 3
  have ga4 := hA0.r.free 4
  have hne := hA0.ne
  have HA0 := hid hA0
  clear hA0
  refine Mix.wp_region_mix (fun _ => True) (fun i => ([1, 0, 0, 0, 0, 0, 0, 0, 0, 0, 0, 0, 0, 0, 2, 0, 0, 1, 0, 0, 2] : List Nat).getD i 0) [0, 1, 2, 3, 4, 5, 6, 7, 8, 9, 10, 11, 12, 13, 14, 15, 16, 17, 18, 19, 20] (by kernel_rfl) (by kernel_rfl) ?_
  repeat (first | (refine Mix.mix_q (by simp only [List.getElem?_toArray, List.getElem?_cons_zero, List.getElem?_cons_succ]; exact rfl) rfl ?_; go_big_quiet_step (fail); refine wpQuiet_nil ?_) | (refine Mix.mix_p (by simp only [List.getElem?_toArray, List.getElem?_cons_zero, List.getElem?_cons_succ]; exact rfl) rfl rfl ?_; go_big_quiet_step (fail); refine wpQuiet_nil ?_))
  refine Mix.mix_e (by simp only [List.getElem?_toArray, List.getElem?_cons_zero, List.getElem?_cons_succ]; exact rfl) rfl fun W hW => ?_
  obtain ⟨n1, rfl⟩ := hW
  go_wp2_with fail
  refine (rload_ok B rp vb mv s q.t (F.first + 1 : Nat) _ (rbank_drew HA0.out.b n1) hlen hB0 ⟨ht.1, ht.2, by omega, by omega⟩).mono ?_
  rintro e w1 ⟨rfl, hs1⟩
  obtain ⟨mv', hA1⟩ := (HA0.out.drewN n1).call hs1
  rw [Int.toNat_natCast]
  clear f0 f1 f2 f3 f4 f5 a0 a1 a2 a3 a4 gf4 gf5 ga0 ga1 ga2 ga3 ga4 hne
  have f0 : w1.cell? ⟨rf, 0, none⟩ = some (.pointer (some ⟨rp, 0, none⟩)) := hA1.f.cell 0
  have f1 : w1.cell? ⟨rf, 1, none⟩ = some (.int .i64 F.first) := hA1.f.cell 1
  have f2 : w1.cell? ⟨rf, 2, none⟩ = some (.int .i64 F.n) := hA1.f.cell 2
  have f3 : w1.cell? ⟨rf, 3, none⟩ = some (.int .u64 F.last) := hA1.f.cell 3
  have f4 : w1.cell? ⟨rf, 4, none⟩ = some (.bool F.pushing) := hA1.f.cell 4
  have f5 : w1.cell? ⟨rf, 5, none⟩ = some (.bool F.receiving) := hA1.f.cell 5
  have a0 : w1.cell? ⟨rb, 0, none⟩ = some (.pointer (some ⟨rf, 0, none⟩)) := hA1.r.cell 0
  have a1 : w1.cell? ⟨rb, 1, none⟩ = some (.int .i64 q.t) := hA1.r.cell 1
  have a2 : w1.cell? ⟨rb, 2, none⟩ = some (.int .u64 q.p) := hA1.r.cell 2
  have a3 : w1.cell? ⟨rb, 3, none⟩ = some (.int .u64 q.l) := hA1.r.cell 3
  have a4 : w1.cell? ⟨rb, 4, none⟩ = some (.int .u8 q.ph) := hA1.r.cell 4
  have gf4 := hA1.f.free 4
  have gf5 := hA1.f.free 5
  have ga0 := hA1.r.free 0
  have ga1 := hA1.r.free 1
  have ga2 := hA1.r.free 2
  have ga3 := hA1.r.free 3
  have ga4 := hA1.r.free 4
  have hne := hA1.ne
  have HA1 := hid hA1
  have Hs1 := hid hs1
  clear hA1 hs1
  go_wp2_with fail
  repeat (first | (refine Mix.mix_q (by simp only [List.getElem?_toArray, List.getElem?_cons_zero, List.getElem?_cons_succ]; exact rfl) rfl ?_; go_big_quiet_step (fail); refine wpQuiet_nil ?_) | (refine Mix.mix_p (by simp only [List.getElem?_toArray, List.getElem?_cons_zero, List.getElem?_cons_succ]; exact rfl) rfl rfl ?_; go_big_quiet_step (fail); refine wpQuiet_nil ?_))
  refine Mix.mix_e (by simp only [List.getElem?_toArray, List.getElem?_cons_zero, List.getElem?_cons_succ]; exact rfl) rfl fun W hW => ?_
  obtain ⟨n2, rfl⟩ := hW
  go_wp2_with fail
  refine Mix.mix_world fun w2 hw2 => ?_
  have hA2 := (HA1.out.drewN n2).putR 3 (.int .u64 (lk s.vs (F.first + 1)))
  rw [← hw2] at hA2
  clear f0 f1 f2 f3 f4 f5 a0 a1 a2 a3 a4 gf4 gf5 ga0 ga1 ga2 ga3 ga4 hne
  clear hw2
  have f0 : w2.cell? ⟨rf, 0, none⟩ = some (.pointer (some ⟨rp, 0, none⟩)) := hA2.f.cell 0
  have f1 : w2.cell? ⟨rf, 1, none⟩ = some (.int .i64 F.first) := hA2.f.cell 1
  have f2 : w2.cell? ⟨rf, 2, none⟩ = some (.int .i64 F.n) := hA2.f.cell 2
  have f3 : w2.cell? ⟨rf, 3, none⟩ = some (.int .u64 F.last) := hA2.f.cell 3
  have f4 : w2.cell? ⟨rf, 4, none⟩ = some (.bool F.pushing) := hA2.f.cell 4
  have f5 : w2.cell? ⟨rf, 5, none⟩ = some (.bool F.receiving) := hA2.f.cell 5
  have a0 : w2.cell? ⟨rb, 0, none⟩ = some (.pointer (some ⟨rf, 0, none⟩)) := hA2.r.cell 0
  have a1 : w2.cell? ⟨rb, 1, none⟩ = some (.int .i64 q.t) := hA2.r.cell 1
  have a2 : w2.cell? ⟨rb, 2, none⟩ = some (.int .u64 q.p) := hA2.r.cell 2
  have a3 : w2.cell? ⟨rb, 3, none⟩ = some (.int .u64 (lk s.vs (F.first + 1))) := hA2.r.cell 3
  have a4 : w2.cell? ⟨rb, 4, none⟩ = some (.int .u8 q.ph) := hA2.r.cell 4
  have gf4 := hA2.f.free 4
  have gf5 := hA2.f.free 5
  have ga0 := hA2.r.free 0
  have ga1 := hA2.r.free 1
  have ga2 := hA2.r.free 2
  have ga3 := hA2.r.free 3
  have ga4 := hA2.r.free 4
  have hne := hA2.ne
  have HA2 := hid hA2
  clear hA2
  intro n3
  go_wp2_with fail
  go_ret2
  exact rpres_close 28 Hh.out (HA2.out.drewN n3) rfl rfl rfl rfl (by rfl)
set_option maxRecDepth 100000 in
set_option maxHeartbeats 1000000 in
theorem rps28a (hph : q.ph = 28) (hc : cLag s F = q.l) : Calls Try.prog 40 #[.pointer (some ⟨rb, 0, none⟩)] w (RPRes B rp vb rf rb mv F q (pstep s F q) w) := by
  have he : pstep s F q = (s.cas q.t (F.first + 1 : Nat) q.l q.p, 0, q.l) := by unfold pstep; rw [if_neg (by rw [hph]; decide)]; rw [if_neg (by rw [hph]; decide)]; rw [if_pos hph, if_pos hc]
  rw [he]
  clear he
  have hA := AtR.start h hq
  have hn := h.hn
  have hn1 := h.ok.n1
  have hn2 := h.ok.n2
  have hroom := h.ok.room
  have f0 : w.cell? ⟨rf, 0, none⟩ = some (.pointer (some ⟨rp, 0, none⟩)) := hA.f.cell 0
  have f1 : w.cell? ⟨rf, 1, none⟩ = some (.int .i64 F.first) := hA.f.cell 1
  have f2 : w.cell? ⟨rf, 2, none⟩ = some (.int .i64 F.n) := hA.f.cell 2
  have f3 : w.cell? ⟨rf, 3, none⟩ = some (.int .u64 F.last) := hA.f.cell 3
  have f4 : w.cell? ⟨rf, 4, none⟩ = some (.bool F.pushing) := hA.f.cell 4
  have f5 : w.cell? ⟨rf, 5, none⟩ = some (.bool F.receiving) := hA.f.cell 5
  have a0 : w.cell? ⟨rb, 0, none⟩ = some (.pointer (some ⟨rf, 0, none⟩)) := hA.r.cell 0
  have a1 : w.cell? ⟨rb, 1, none⟩ = some (.int .i64 q.t) := hA.r.cell 1
  have a2 : w.cell? ⟨rb, 2, none⟩ = some (.int .u64 q.p) := hA.r.cell 2
  have a3 : w.cell? ⟨rb, 3, none⟩ = some (.int .u64 q.l) := hA.r.cell 3
  have a4 : w.cell? ⟨rb, 4, none⟩ = some (.int .u8 q.ph) := hA.r.cell 4
  have gf4 := hA.f.free 4
  have gf5 := hA.f.free 5
  have ga0 := hA.r.free 0
  have ga1 := hA.r.free 1
  have ga2 := hA.r.free 2
  have ga3 := hA.r.free 3
  have ga4 := hA.r.free 4
  have hne := hA.ne
  have bp0 : (q.ph == 0) = false := by rw [beq_eq_false_iff_ne, hph]; decide
  have bp26 : (q.ph == 26) = false := by rw [beq_eq_false_iff_ne, hph]; decide
  have bp27 : (q.ph == 27) = false := by rw [beq_eq_false_iff_ne, hph]; decide
  have bp28 : (q.ph == 28) = true := by rw [beq_iff_eq]; exact hph
  have bp29 : (q.ph == 29) = false := by rw [beq_eq_false_iff_ne, hph]; decide
  have bp30 : (q.ph == 30) = false := by rw [beq_eq_false_iff_ne, hph]; decide
  have bp31 : (q.ph == 31) = false := by rw [beq_eq_false_iff_ne, hph]; decide
  have bp32 : (q.ph == 32) = false := by rw [beq_eq_false_iff_ne, hph]; decide
  have HC := hid hc
  clear hc
  have Hph := hid hph
  have Hh := hid h
  have HA := hid hA
  clear hph hA
  go_enter Try.func40, Try.ntmps40
  go_wp2_with fail
  go_quiet (fail)
  go_wp2_with fail
  obtain ⟨W0, hW0⟩ : ∃ W0, W0 = w.drewN nq := ⟨_, rfl⟩
  have hA0 := HA.out.drewN nq
  rw [← hW0] at hA0 ⊢
  have M0 := hid (show RFeedM B W0 rp vb rf mv s F from by rw [hW0]; exact Hh.out.drewN nq)
  have HW0 := hid hW0
  have hB0 : B ≤ W0.heap.size := by rw [hW0]; exact hB
  clear hW0
  clear f0 f1 f2 f3 f4 f5 a0 a1 a2 a3 a4 gf4 gf5 ga0 ga1 ga2 ga3 ga4 hne
  have f0 : W0.cell? ⟨rf, 0, none⟩ = some (.pointer (some ⟨rp, 0, none⟩)) := hA0.f.cell 0
  have f1 : W0.cell? ⟨rf, 1, none⟩ = some (.int .i64 F.first) := hA0.f.cell 1
  have f2 : W0.cell? ⟨rf, 2, none⟩ = some (.int .i64 F.n) := hA0.f.cell 2
  have f3 : W0.cell? ⟨rf, 3, none⟩ = some (.int .u64 F.last) := hA0.f.cell 3
  have f4 : W0.cell? ⟨rf, 4, none⟩ = some (.bool F.pushing) := hA0.f.cell 4
  have f5 : W0.cell? ⟨rf, 5, none⟩ = some (.bool F.receiving) := hA0.f.cell 5
  have a0 : W0.cell? ⟨rb, 0, none⟩ = some (.pointer (some ⟨rf, 0, none⟩)) := hA0.r.cell 0
  have a1 : W0.cell? ⟨rb, 1, none⟩ = some (.int .i64 q.t) := hA0.r.cell 1
  have a2 : W0.cell? ⟨rb, 2, none⟩ = some (.int .u64 q.p) := hA0.r.cell 2
  have a3 : W0.cell? ⟨rb, 3, none⟩ = some (.int .u64 q.l) := hA0.r.cell 3
  have a4 : W0.cell? ⟨rb, 4, none⟩ = some (.int .u8 q.ph) := hA0.r.cell 4
  have gf4 := hA0.f.free 4
  have gf5 := hA0.f.free 5
  have ga0 := hA0.r.free 0
  have ga1 := hA0.r.free 1
  have ga2 := hA0.r.free 2
  have ga3 := hA0.r.free 3
  have ga4 := hA0.r.free 4
  have hne := hA0.ne
  have HA0 := hid hA0
  clear hA0
  refine Mix.wp_region_mix (fun _ => True) (fun i => ([0, 0, 0, 0, 0, 0, 0, 0, 0, 0, 0, 0, 0, 0, 0, 0, 0, 0, 0, 0, 0, 2, 0, 0, 0, 0, 0] : List Nat).getD i 0) [0, 1, 2, 3, 4, 5, 6, 7, 8, 9, 10, 11, 12, 13, 14, 15, 16, 17, 18, 19, 20, 21, 22, 23, 24, 25, 26] (by kernel_rfl) (by kernel_rfl) ?_
  repeat (first | (refine Mix.mix_q (by simp only [List.getElem?_toArray, List.getElem?_cons_zero, List.getElem?_cons_succ]; exact rfl) rfl ?_; go_big_quiet_step (fail); refine wpQuiet_nil ?_) | (refine Mix.mix_p (by simp only [List.getElem?_toArray, List.getElem?_cons_zero, List.getElem?_cons_succ]; exact rfl) rfl rfl ?_; go_big_quiet_step (fail); refine wpQuiet_nil ?_))
  refine Mix.mix_e (by simp only [List.getElem?_toArray, List.getElem?_cons_zero, List.getElem?_cons_succ]; exact rfl) rfl fun W hW => ?_
  obtain ⟨n1, rfl⟩ := hW
  go_wp2_with fail
  refine (rcas_ok1 B rp vb mv s q.t (F.first + 1 : Nat) q.l q.p _ (rbank_drew HA0.out.b n1) hlen hB0 ⟨ht.1, ht.2, by omega, by omega⟩ (by rw [Int.toNat_natCast]; exact HC.out)).mono ?_
  rintro e w1 ⟨rfl, hs1⟩
  obtain ⟨mv', hA1⟩ := (HA0.out.drewN n1).call hs1
  skip
  clear f0 f1 f2 f3 f4 f5 a0 a1 a2 a3 a4 gf4 gf5 ga0 ga1 ga2 ga3 ga4 hne
  have f0 : w1.cell? ⟨rf, 0, none⟩ = some (.pointer (some ⟨rp, 0, none⟩)) := hA1.f.cell 0
  have f1 : w1.cell? ⟨rf, 1, none⟩ = some (.int .i64 F.first) := hA1.f.cell 1
  have f2 : w1.cell? ⟨rf, 2, none⟩ = some (.int .i64 F.n) := hA1.f.cell 2
  have f3 : w1.cell? ⟨rf, 3, none⟩ = some (.int .u64 F.last) := hA1.f.cell 3
  have f4 : w1.cell? ⟨rf, 4, none⟩ = some (.bool F.pushing) := hA1.f.cell 4
  have f5 : w1.cell? ⟨rf, 5, none⟩ = some (.bool F.receiving) := hA1.f.cell 5
  have a0 : w1.cell? ⟨rb, 0, none⟩ = some (.pointer (some ⟨rf, 0, none⟩)) := hA1.r.cell 0
  have a1 : w1.cell? ⟨rb, 1, none⟩ = some (.int .i64 q.t) := hA1.r.cell 1
  have a2 : w1.cell? ⟨rb, 2, none⟩ = some (.int .u64 q.p) := hA1.r.cell 2
  have a3 : w1.cell? ⟨rb, 3, none⟩ = some (.int .u64 q.l) := hA1.r.cell 3
  have a4 : w1.cell? ⟨rb, 4, none⟩ = some (.int .u8 q.ph) := hA1.r.cell 4
  have gf4 := hA1.f.free 4
  have gf5 := hA1.f.free 5
  have ga0 := hA1.r.free 0
  have ga1 := hA1.r.free 1
  have ga2 := hA1.r.free 2
  have ga3 := hA1.r.free 3
  have ga4 := hA1.r.free 4
  have hne := hA1.ne
  have HA1 := hid hA1
  have Hs1 := hid hs1
  clear hA1 hs1
  go_wp2_with fail
  repeat (first | (refine Mix.mix_q (by simp only [List.getElem?_toArray, List.getElem?_cons_zero, List.getElem?_cons_succ]; exact rfl) rfl ?_; go_big_quiet_step (fail); refine wpQuiet_nil ?_) | (refine Mix.mix_p (by simp only [List.getElem?_toArray, List.getElem?_cons_zero, List.getElem?_cons_succ]; exact rfl) rfl rfl ?_; go_big_quiet_step (fail); refine wpQuiet_nil ?_))
  intro n2
  go_wp2_with fail
  go_ret2
  exact rpres_close 0 Hh.out (HA1.out.drewN n2) rfl rfl rfl (cas_len ..) (by rfl)
set_option maxRecDepth 100000 in
set_option maxHeartbeats 1000000 in
theorem rps28b (hph : q.ph = 28) (hc : cLag s F ≠ q.l) : Calls Try.prog 40 #[.pointer (some ⟨rb, 0, none⟩)] w (RPRes B rp vb rf rb mv F q (pstep s F q) w) := by
  have he : pstep s F q = (s.cas q.t (F.first + 1 : Nat) q.l q.p, 29, q.l) := by unfold pstep; rw [if_neg (by rw [hph]; decide)]; rw [if_neg (by rw [hph]; decide)]; rw [if_pos hph, if_neg hc]
  rw [he]
  clear he
  have hA := AtR.start h hq
  have hn := h.hn
  have hn1 := h.ok.n1
  have hn2 := h.ok.n2
  have hroom := h.ok.room
  have f0 : w.cell? ⟨rf, 0, none⟩ = some (.pointer (some ⟨rp, 0, none⟩)) := hA.f.cell 0
  have f1 : w.cell? ⟨rf, 1, none⟩ = some (.int .i64 F.first) := hA.f.cell 1
  have f2 : w.cell? ⟨rf, 2, none⟩ = some (.int .i64 F.n) := hA.f.cell 2
  have f3 : w.cell? ⟨rf, 3, none⟩ = some (.int .u64 F.last) := hA.f.cell 3
  have f4 : w.cell? ⟨rf, 4, none⟩ = some (.bool F.pushing) := hA.f.cell 4
  have f5 : w.cell? ⟨rf, 5, none⟩ = some (.bool F.receiving) := hA.f.cell 5
  have a0 : w.cell? ⟨rb, 0, none⟩ = some (.pointer (some ⟨rf, 0, none⟩)) := hA.r.cell 0
  have a1 : w.cell? ⟨rb, 1, none⟩ = some (.int .i64 q.t) := hA.r.cell 1
  have a2 : w.cell? ⟨rb, 2, none⟩ = some (.int .u64 q.p) := hA.r.cell 2
  have a3 : w.cell? ⟨rb, 3, none⟩ = some (.int .u64 q.l) := hA.r.cell 3
  have a4 : w.cell? ⟨rb, 4, none⟩ = some (.int .u8 q.ph) := hA.r.cell 4
  have gf4 := hA.f.free 4
  have gf5 := hA.f.free 5
  have ga0 := hA.r.free 0
  have ga1 := hA.r.free 1
  have ga2 := hA.r.free 2
  have ga3 := hA.r.free 3
  have ga4 := hA.r.free 4
  have hne := hA.ne
  have bp0 : (q.ph == 0) = false := by rw [beq_eq_false_iff_ne, hph]; decide
  have bp26 : (q.ph == 26) = false := by rw [beq_eq_false_iff_ne, hph]; decide
  have bp27 : (q.ph == 27) = false := by rw [beq_eq_false_iff_ne, hph]; decide
  have bp28 : (q.ph == 28) = true := by rw [beq_iff_eq]; exact hph
  have bp29 : (q.ph == 29) = false := by rw [beq_eq_false_iff_ne, hph]; decide
  have bp30 : (q.ph == 30) = false := by rw [beq_eq_false_iff_ne, hph]; decide
  have bp31 : (q.ph == 31) = false := by rw [beq_eq_false_iff_ne, hph]; decide
  have bp32 : (q.ph == 32) = false := by rw [beq_eq_false_iff_ne, hph]; decide
  have HC := hid hc
  clear hc
  have Hph := hid hph
  have Hh := hid h
  have HA := hid hA
  clear hph hA
  go_enter Try.func40, Try.ntmps40
  go_wp2_with fail
  go_quiet (fail)
  go_wp2_with fail
  obtain ⟨W0, hW0⟩ : ∃ W0, W0 = w.drewN nq := ⟨_, rfl⟩
  have hA0 := HA.out.drewN nq
  rw [← hW0] at hA0 ⊢
  have M0 := hid (show RFeedM B W0 rp vb rf mv s F from by rw [hW0]; exact Hh.out.drewN nq)
  have HW0 := hid hW0
  have hB0 : B ≤ W0.heap.size := by rw [hW0]; exact hB
  clear hW0
  clear f0 f1 f2 f3 f4 f5 a0 a1 a2 a3 a4 gf4 gf5 ga0 ga1 ga2 ga3 ga4 hne
  have f0 : W0.cell? ⟨rf, 0, none⟩ = some (.pointer (some ⟨rp, 0, none⟩)) := hA0.f.cell 0
  have f1 : W0.cell? ⟨rf, 1, none⟩ = some (.int .i64 F.first) := hA0.f.cell 1
  have f2 : W0.cell? ⟨rf, 2, none⟩ = some (.int .i64 F.n) := hA0.f.cell 2
  have f3 : W0.cell? ⟨rf, 3, none⟩ = some (.int .u64 F.last) := hA0.f.cell 3
  have f4 : W0.cell? ⟨rf, 4, none⟩ = some (.bool F.pushing) := hA0.f.cell 4
  have f5 : W0.cell? ⟨rf, 5, none⟩ = some (.bool F.receiving) := hA0.f.cell 5
  have a0 : W0.cell? ⟨rb, 0, none⟩ = some (.pointer (some ⟨rf, 0, none⟩)) := hA0.r.cell 0
  have a1 : W0.cell? ⟨rb, 1, none⟩ = some (.int .i64 q.t) := hA0.r.cell 1
  have a2 : W0.cell? ⟨rb, 2, none⟩ = some (.int .u64 q.p) := hA0.r.cell 2
  have a3 : W0.cell? ⟨rb, 3, none⟩ = some (.int .u64 q.l) := hA0.r.cell 3
  have a4 : W0.cell? ⟨rb, 4, none⟩ = some (.int .u8 q.ph) := hA0.r.cell 4
  have gf4 := hA0.f.free 4
  have gf5 := hA0.f.free 5
  have ga0 := hA0.r.free 0
  have ga1 := hA0.r.free 1
  have ga2 := hA0.r.free 2
  have ga3 := hA0.r.free 3
  have ga4 := hA0.r.free 4
  have hne := hA0.ne
  have HA0 := hid hA0
  clear hA0
  refine Mix.wp_region_mix (fun _ => True) (fun i => ([0, 0, 0, 0, 0, 0, 0, 0, 0, 0, 0, 0, 0, 0, 0, 0, 0, 0, 0, 0, 0, 2, 0, 0, 0, 0, 0] : List Nat).getD i 0) [0, 1, 2, 3, 4, 5, 6, 7, 8, 9, 10, 11, 12, 13, 14, 15, 16, 17, 18, 19, 20, 21, 22, 23, 24, 25, 26] (by kernel_rfl) (by kernel_rfl) ?_
  repeat (first | (refine Mix.mix_q (by simp only [List.getElem?_toArray, List.getElem?_cons_zero, List.getElem?_cons_succ]; exact rfl) rfl ?_; go_big_quiet_step (fail); refine wpQuiet_nil ?_) | (refine Mix.mix_p (by simp only [List.getElem?_toArray, List.getElem?_cons_zero, List.getElem?_cons_succ]; exact rfl) rfl rfl ?_; go_big_quiet_step (fail); refine wpQuiet_nil ?_))
  refine Mix.mix_e (by simp only [List.getElem?_toArray, List.getElem?_cons_zero, List.getElem?_cons_succ]; exact rfl) rfl fun W hW => ?_
  obtain ⟨n1, rfl⟩ := hW
  go_wp2_with fail
  refine (rcas_ok0 B rp vb mv s q.t (F.first + 1 : Nat) q.l q.p _ (rbank_drew HA0.out.b n1) hlen hB0 ⟨ht.1, ht.2, by omega, by omega⟩ (by rw [Int.toNat_natCast]; exact HC.out)).mono ?_
  rintro e w1 ⟨rfl, hs1⟩
  obtain ⟨mv', hA1⟩ := (HA0.out.drewN n1).call hs1
  skip
  clear f0 f1 f2 f3 f4 f5 a0 a1 a2 a3 a4 gf4 gf5 ga0 ga1 ga2 ga3 ga4 hne
  have f0 : w1.cell? ⟨rf, 0, none⟩ = some (.pointer (some ⟨rp, 0, none⟩)) := hA1.f.cell 0
  have f1 : w1.cell? ⟨rf, 1, none⟩ = some (.int .i64 F.first) := hA1.f.cell 1
  have f2 : w1.cell? ⟨rf, 2, none⟩ = some (.int .i64 F.n) := hA1.f.cell 2
  have f3 : w1.cell? ⟨rf, 3, none⟩ = some (.int .u64 F.last) := hA1.f.cell 3
  have f4 : w1.cell? ⟨rf, 4, none⟩ = some (.bool F.pushing) := hA1.f.cell 4
  have f5 : w1.cell? ⟨rf, 5, none⟩ = some (.bool F.receiving) := hA1.f.cell 5
  have a0 : w1.cell? ⟨rb, 0, none⟩ = some (.pointer (some ⟨rf, 0, none⟩)) := hA1.r.cell 0
  have a1 : w1.cell? ⟨rb, 1, none⟩ = some (.int .i64 q.t) := hA1.r.cell 1
  have a2 : w1.cell? ⟨rb, 2, none⟩ = some (.int .u64 q.p) := hA1.r.cell 2
  have a3 : w1.cell? ⟨rb, 3, none⟩ = some (.int .u64 q.l) := hA1.r.cell 3
  have a4 : w1.cell? ⟨rb, 4, none⟩ = some (.int .u8 q.ph) := hA1.r.cell 4
  have gf4 := hA1.f.free 4
  have gf5 := hA1.f.free 5
  have ga0 := hA1.r.free 0
  have ga1 := hA1.r.free 1
  have ga2 := hA1.r.free 2
  have ga3 := hA1.r.free 3
  have ga4 := hA1.r.free 4
  have hne := hA1.ne
  have HA1 := hid hA1
  have Hs1 := hid hs1
  clear hA1 hs1
  go_wp2_with fail
  repeat (first | (refine Mix.mix_q (by simp only [List.getElem?_toArray, List.getElem?_cons_zero, List.getElem?_cons_succ]; exact rfl) rfl ?_; go_big_quiet_step (fail); refine wpQuiet_nil ?_) | (refine Mix.mix_p (by simp only [List.getElem?_toArray, List.getElem?_cons_zero, List.getElem?_cons_succ]; exact rfl) rfl rfl ?_; go_big_quiet_step (fail); refine wpQuiet_nil ?_))
  intro n2
  go_wp2_with fail
  go_ret2
  exact rpres_close 29 Hh.out (HA1.out.drewN n2) rfl rfl rfl (cas_len ..) (by rfl)
set_option maxRecDepth 100000 in
set_option maxHeartbeats 1000000 in
theorem rps29a (hph : q.ph = 29) (hc : w64 (cTail s F - cHead s F) < F.n) : Calls Try.prog 40 #[.pointer (some ⟨rb, 0, none⟩)] w (RPRes B rp vb rf rb mv F q (pstep s F q) w) := by
  have he : pstep s F q = (s.load q.t (F.first + 2 : Nat), 30, q.l) := by unfold pstep; rw [if_neg (by rw [hph]; decide)]; rw [if_neg (by rw [hph]; decide)]; rw [if_neg (by rw [hph]; decide)]; rw [if_pos hph, if_pos hc]
  rw [he]
  clear he
  have hA := AtR.start h hq
  have hn := h.hn
  have hn1 := h.ok.n1
  have hn2 := h.ok.n2
  have hroom := h.ok.room
  have f0 : w.cell? ⟨rf, 0, none⟩ = some (.pointer (some ⟨rp, 0, none⟩)) := hA.f.cell 0
  have f1 : w.cell? ⟨rf, 1, none⟩ = some (.int .i64 F.first) := hA.f.cell 1
  have f2 : w.cell? ⟨rf, 2, none⟩ = some (.int .i64 F.n) := hA.f.cell 2
  have f3 : w.cell? ⟨rf, 3, none⟩ = some (.int .u64 F.last) := hA.f.cell 3
  have f4 : w.cell? ⟨rf, 4, none⟩ = some (.bool F.pushing) := hA.f.cell 4
  have f5 : w.cell? ⟨rf, 5, none⟩ = some (.bool F.receiving) := hA.f.cell 5
  have a0 : w.cell? ⟨rb, 0, none⟩ = some (.pointer (some ⟨rf, 0, none⟩)) := hA.r.cell 0
  have a1 : w.cell? ⟨rb, 1, none⟩ = some (.int .i64 q.t) := hA.r.cell 1
  have a2 : w.cell? ⟨rb, 2, none⟩ = some (.int .u64 q.p) := hA.r.cell 2
  have a3 : w.cell? ⟨rb, 3, none⟩ = some (.int .u64 q.l) := hA.r.cell 3
  have a4 : w.cell? ⟨rb, 4, none⟩ = some (.int .u8 q.ph) := hA.r.cell 4
  have gf4 := hA.f.free 4
  have gf5 := hA.f.free 5
  have ga0 := hA.r.free 0
  have ga1 := hA.r.free 1
  have ga2 := hA.r.free 2
  have ga3 := hA.r.free 3
  have ga4 := hA.r.free 4
  have hne := hA.ne
  have bp0 : (q.ph == 0) = false := by rw [beq_eq_false_iff_ne, hph]; decide
  have bp26 : (q.ph == 26) = false := by rw [beq_eq_false_iff_ne, hph]; decide
  have bp27 : (q.ph == 27) = false := by rw [beq_eq_false_iff_ne, hph]; decide
  have bp28 : (q.ph == 28) = false := by rw [beq_eq_false_iff_ne, hph]; decide
  have bp29 : (q.ph == 29) = true := by rw [beq_iff_eq]; exact hph
  have bp30 : (q.ph == 30) = false := by rw [beq_eq_false_iff_ne, hph]; decide
  have bp31 : (q.ph == 31) = false := by rw [beq_eq_false_iff_ne, hph]; decide
  have bp32 : (q.ph == 32) = false := by rw [beq_eq_false_iff_ne, hph]; decide
  have hw : IntKind.u64.wrap (cTail s F - cHead s F) = w64 (cTail s F - cHead s F) := w64_wrap _
  obtain ⟨x, hx⟩ : ∃ x, x = w64 (cTail s F - cHead s F) := ⟨_, rfl⟩
  rw [← hx] at hw hc
  have hcv : IntKind.u64.wrap (F.n : Int) = (F.n : Int) := by rw [w64_wrap]; unfold w64; omega
  have bc : decide (x < (F.n : Int)) = true := decide_eq_true hc
  obtain ⟨hd, hhd⟩ : ∃ y, y = cHead s F := ⟨_, rfl⟩
  obtain ⟨tl, htl⟩ : ∃ y, y = cTail s F := ⟨_, rfl⟩
  rw [← hhd, ← htl] at hw
  have HHD := hid hhd
  have HTL := hid htl
  clear hc hx hhd htl hH
  have Hph := hid hph
  have Hh := hid h
  have HA := hid hA
  clear hph hA
  go_enter Try.func40, Try.ntmps40
  go_wp2_with fail
  go_quiet (fail)
  go_wp2_with fail
  obtain ⟨W0, hW0⟩ : ∃ W0, W0 = w.drewN nq := ⟨_, rfl⟩
  have hA0 := HA.out.drewN nq
  rw [← hW0] at hA0 ⊢
  have M0 := hid (show RFeedM B W0 rp vb rf mv s F from by rw [hW0]; exact Hh.out.drewN nq)
  have HW0 := hid hW0
  have hB0 : B ≤ W0.heap.size := by rw [hW0]; exact hB
  clear hW0
  clear f0 f1 f2 f3 f4 f5 a0 a1 a2 a3 a4 gf4 gf5 ga0 ga1 ga2 ga3 ga4 hne
  have f0 : W0.cell? ⟨rf, 0, none⟩ = some (.pointer (some ⟨rp, 0, none⟩)) := hA0.f.cell 0
  have f1 : W0.cell? ⟨rf, 1, none⟩ = some (.int .i64 F.first) := hA0.f.cell 1
  have f2 : W0.cell? ⟨rf, 2, none⟩ = some (.int .i64 F.n) := hA0.f.cell 2
  have f3 : W0.cell? ⟨rf, 3, none⟩ = some (.int .u64 F.last) := hA0.f.cell 3
  have f4 : W0.cell? ⟨rf, 4, none⟩ = some (.bool F.pushing) := hA0.f.cell 4
  have f5 : W0.cell? ⟨rf, 5, none⟩ = some (.bool F.receiving) := hA0.f.cell 5
  have a0 : W0.cell? ⟨rb, 0, none⟩ = some (.pointer (some ⟨rf, 0, none⟩)) := hA0.r.cell 0
  have a1 : W0.cell? ⟨rb, 1, none⟩ = some (.int .i64 q.t) := hA0.r.cell 1
  have a2 : W0.cell? ⟨rb, 2, none⟩ = some (.int .u64 q.p) := hA0.r.cell 2
  have a3 : W0.cell? ⟨rb, 3, none⟩ = some (.int .u64 q.l) := hA0.r.cell 3
  have a4 : W0.cell? ⟨rb, 4, none⟩ = some (.int .u8 q.ph) := hA0.r.cell 4
  have gf4 := hA0.f.free 4
  have gf5 := hA0.f.free 5
  have ga0 := hA0.r.free 0
  have ga1 := hA0.r.free 1
  have ga2 := hA0.r.free 2
  have ga3 := hA0.r.free 3
  have ga4 := hA0.r.free 4
  have hne := hA0.ne
  have HA0 := hid hA0
  clear hA0
  refine Mix.wp_region_mix (fun _ => True) (fun i => ([0, 0, 0, 0, 0, 0, 0, 0, 0, 0, 0, 0, 0, 2, 0, 0, 0, 0, 0] : List Nat).getD i 0) [0, 1, 2, 3, 4, 5, 6, 7, 8, 9, 10, 11, 12, 13, 14, 15, 16, 17, 18] (by kernel_rfl) (by kernel_rfl) ?_
  repeat (first | (refine Mix.mix_q (by simp only [List.getElem?_toArray, List.getElem?_cons_zero, List.getElem?_cons_succ]; exact rfl) rfl ?_; go_big_quiet_step (fail); refine wpQuiet_nil ?_) | (refine Mix.mix_p (by simp only [List.getElem?_toArray, List.getElem?_cons_zero, List.getElem?_cons_succ]; exact rfl) rfl rfl ?_; go_big_quiet_step (fail); refine wpQuiet_nil ?_))
  refine Mix.mix_e (by simp only [List.getElem?_toArray, List.getElem?_cons_zero, List.getElem?_cons_succ]; exact rfl) rfl fun W hW => ?_
  obtain ⟨n1, rfl⟩ := hW
  go_wp2_with fail
  refine (rload_ok B rp vb mv s q.t (F.first + 2 : Nat) _ (rbank_drew HA0.out.b n1) hlen hB0 ⟨ht.1, ht.2, by omega, by omega⟩).mono ?_
  rintro e w1 ⟨rfl, hs1⟩
  obtain ⟨mv', hA1⟩ := (HA0.out.drewN n1).call hs1
  rw [Int.toNat_natCast]
  clear f0 f1 f2 f3 f4 f5 a0 a1 a2 a3 a4 gf4 gf5 ga0 ga1 ga2 ga3 ga4 hne
  have f0 : w1.cell? ⟨rf, 0, none⟩ = some (.pointer (some ⟨rp, 0, none⟩)) := hA1.f.cell 0
  have f1 : w1.cell? ⟨rf, 1, none⟩ = some (.int .i64 F.first) := hA1.f.cell 1
  have f2 : w1.cell? ⟨rf, 2, none⟩ = some (.int .i64 F.n) := hA1.f.cell 2
  have f3 : w1.cell? ⟨rf, 3, none⟩ = some (.int .u64 F.last) := hA1.f.cell 3
  have f4 : w1.cell? ⟨rf, 4, none⟩ = some (.bool F.pushing) := hA1.f.cell 4
  have f5 : w1.cell? ⟨rf, 5, none⟩ = some (.bool F.receiving) := hA1.f.cell 5
  have a0 : w1.cell? ⟨rb, 0, none⟩ = some (.pointer (some ⟨rf, 0, none⟩)) := hA1.r.cell 0
  have a1 : w1.cell? ⟨rb, 1, none⟩ = some (.int .i64 q.t) := hA1.r.cell 1
  have a2 : w1.cell? ⟨rb, 2, none⟩ = some (.int .u64 q.p) := hA1.r.cell 2
  have a3 : w1.cell? ⟨rb, 3, none⟩ = some (.int .u64 q.l) := hA1.r.cell 3
  have a4 : w1.cell? ⟨rb, 4, none⟩ = some (.int .u8 q.ph) := hA1.r.cell 4
  have gf4 := hA1.f.free 4
  have gf5 := hA1.f.free 5
  have ga0 := hA1.r.free 0
  have ga1 := hA1.r.free 1
  have ga2 := hA1.r.free 2
  have ga3 := hA1.r.free 3
  have ga4 := hA1.r.free 4
  have hne := hA1.ne
  have HA1 := hid hA1
  have Hs1 := hid hs1
  clear hA1 hs1
  go_wp2_with fail
  repeat (first | (refine Mix.mix_q (by simp only [List.getElem?_toArray, List.getElem?_cons_zero, List.getElem?_cons_succ]; exact rfl) rfl ?_; go_big_quiet_step (fail); refine wpQuiet_nil ?_) | (refine Mix.mix_p (by simp only [List.getElem?_toArray, List.getElem?_cons_zero, List.getElem?_cons_succ]; exact rfl) rfl rfl ?_; go_big_quiet_step (fail); refine wpQuiet_nil ?_))
  intro n2
  go_wp2_with fail
  obtain ⟨W1, hW1⟩ : ∃ W1, W1 = w1.drewN n2 := ⟨_, rfl⟩
  have M1 := hid (show RFeedM B W1 rp vb rf mv' (s.load q.t (F.first + 2 : Nat)) F from by rw [hW1]; exact ⟨(HA1.out.drewN n2).b, (HA1.out.drewN n2).f, ⟨Hh.out.ok.room, Hh.out.ok.n1, Hh.out.ok.n2⟩, Hh.out.bf⟩)
  have hA2 := HA1.out.drewN n2
  rw [← hW1] at hA2
  have TQ := hid (show ∀ k, Calls Try.prog 70 #[.pointer (some ⟨rf, 0, none⟩)] (W1.drewN k) fun e w'' => e = .returned (.int .u64 tl) ∧ ∃ m, w'' = W1.drewN m from fun k => by rw [HTL.out]; exact rtail_q B rp vb rf mv' (s.load q.t (F.first + 2 : Nat)) F W1 M1.out k)
  have hdx : lk s.vs (F.first + 2) = hd := HHD.out.symm
  try rw [← hW1]
  try rw [hdx]
  clear hW1 hdx
  clear f0 f1 f2 f3 f4 f5 a0 a1 a2 a3 a4 gf4 gf5 ga0 ga1 ga2 ga3 ga4 hne
  have f0 : W1.cell? ⟨rf, 0, none⟩ = some (.pointer (some ⟨rp, 0, none⟩)) := hA2.f.cell 0
  have f1 : W1.cell? ⟨rf, 1, none⟩ = some (.int .i64 F.first) := hA2.f.cell 1
  have f2 : W1.cell? ⟨rf, 2, none⟩ = some (.int .i64 F.n) := hA2.f.cell 2
  have f3 : W1.cell? ⟨rf, 3, none⟩ = some (.int .u64 F.last) := hA2.f.cell 3
  have f4 : W1.cell? ⟨rf, 4, none⟩ = some (.bool F.pushing) := hA2.f.cell 4
  have f5 : W1.cell? ⟨rf, 5, none⟩ = some (.bool F.receiving) := hA2.f.cell 5
  have a0 : W1.cell? ⟨rb, 0, none⟩ = some (.pointer (some ⟨rf, 0, none⟩)) := hA2.r.cell 0
  have a1 : W1.cell? ⟨rb, 1, none⟩ = some (.int .i64 q.t) := hA2.r.cell 1
  have a2 : W1.cell? ⟨rb, 2, none⟩ = some (.int .u64 q.p) := hA2.r.cell 2
  have a3 : W1.cell? ⟨rb, 3, none⟩ = some (.int .u64 q.l) := hA2.r.cell 3
  have a4 : W1.cell? ⟨rb, 4, none⟩ = some (.int .u8 q.ph) := hA2.r.cell 4
  have gf4 := hA2.f.free 4
  have gf5 := hA2.f.free 5
  have ga0 := hA2.r.free 0
  have ga1 := hA2.r.free 1
  have ga2 := hA2.r.free 2
  have ga3 := hA2.r.free 3
  have ga4 := hA2.r.free 4
  have hne := hA2.ne
  have HA2 := hid hA2
  clear hA2
  go_quiet ((go_at_call 70; exact TQ.out _))
  go_wp2_with fail
  go_ret2
  exact rpres_close 30 Hh.out (HA2.out.drewN _) rfl rfl rfl rfl (by rfl)
set_option maxRecDepth 100000 in
set_option maxHeartbeats 1000000 in
theorem rps29b (hph : q.ph = 29) (hc : ¬ w64 (cTail s F - cHead s F) < F.n) : Calls Try.prog 40 #[.pointer (some ⟨rb, 0, none⟩)] w (RPRes B rp vb rf rb mv F q (pstep s F q) w) := by
  have he : pstep s F q = (s.load q.t (F.first + 2 : Nat), 32, q.l) := by unfold pstep; rw [if_neg (by rw [hph]; decide)]; rw [if_neg (by rw [hph]; decide)]; rw [if_neg (by rw [hph]; decide)]; rw [if_pos hph, if_neg hc]
  rw [he]
  clear he
  have hA := AtR.start h hq
  have hn := h.hn
  have hn1 := h.ok.n1
  have hn2 := h.ok.n2
  have hroom := h.ok.room
  have f0 : w.cell? ⟨rf, 0, none⟩ = some (.pointer (some ⟨rp, 0, none⟩)) := hA.f.cell 0
  have f1 : w.cell? ⟨rf, 1, none⟩ = some (.int .i64 F.first) := hA.f.cell 1
  have f2 : w.cell? ⟨rf, 2, none⟩ = some (.int .i64 F.n) := hA.f.cell 2
  have f3 : w.cell? ⟨rf, 3, none⟩ = some (.int .u64 F.last) := hA.f.cell 3
  have f4 : w.cell? ⟨rf, 4, none⟩ = some (.bool F.pushing) := hA.f.cell 4
  have f5 : w.cell? ⟨rf, 5, none⟩ = some (.bool F.receiving) := hA.f.cell 5
  have a0 : w.cell? ⟨rb, 0, none⟩ = some (.pointer (some ⟨rf, 0, none⟩)) := hA.r.cell 0
  have a1 : w.cell? ⟨rb, 1, none⟩ = some (.int .i64 q.t) := hA.r.cell 1
  have a2 : w.cell? ⟨rb, 2, none⟩ = some (.int .u64 q.p) := hA.r.cell 2
  have a3 : w.cell? ⟨rb, 3, none⟩ = some (.int .u64 q.l) := hA.r.cell 3
  have a4 : w.cell? ⟨rb, 4, none⟩ = some (.int .u8 q.ph) := hA.r.cell 4
  have gf4 := hA.f.free 4
  have gf5 := hA.f.free 5
  have ga0 := hA.r.free 0
  have ga1 := hA.r.free 1
  have ga2 := hA.r.free 2
  have ga3 := hA.r.free 3
  have ga4 := hA.r.free 4
  have hne := hA.ne
  have bp0 : (q.ph == 0) = false := by rw [beq_eq_false_iff_ne, hph]; decide
  have bp26 : (q.ph == 26) = false := by rw [beq_eq_false_iff_ne, hph]; decide
  have bp27 : (q.ph == 27) = false := by rw [beq_eq_false_iff_ne, hph]; decide
  have bp28 : (q.ph == 28) = false := by rw [beq_eq_false_iff_ne, hph]; decide
  have bp29 : (q.ph == 29) = true := by rw [beq_iff_eq]; exact hph
  have bp30 : (q.ph == 30) = false := by rw [beq_eq_false_iff_ne, hph]; decide
  have bp31 : (q.ph == 31) = false := by rw [beq_eq_false_iff_ne, hph]; decide
  have bp32 : (q.ph == 32) = false := by rw [beq_eq_false_iff_ne, hph]; decide
  have hw : IntKind.u64.wrap (cTail s F - cHead s F) = w64 (cTail s F - cHead s F) := w64_wrap _
  obtain ⟨x, hx⟩ : ∃ x, x = w64 (cTail s F - cHead s F) := ⟨_, rfl⟩
  rw [← hx] at hw hc
  have hcv : IntKind.u64.wrap (F.n : Int) = (F.n : Int) := by rw [w64_wrap]; unfold w64; omega
  have bc : decide (x < (F.n : Int)) = false := decide_eq_false hc
  obtain ⟨hd, hhd⟩ : ∃ y, y = cHead s F := ⟨_, rfl⟩
  obtain ⟨tl, htl⟩ : ∃ y, y = cTail s F := ⟨_, rfl⟩
  rw [← hhd, ← htl] at hw
  have HHD := hid hhd
  have HTL := hid htl
  clear hc hx hhd htl hH
  have Hph := hid hph
  have Hh := hid h
  have HA := hid hA
  clear hph hA
  go_enter Try.func40, Try.ntmps40
  go_wp2_with fail
  go_quiet (fail)
  go_wp2_with fail
  obtain ⟨W0, hW0⟩ : ∃ W0, W0 = w.drewN nq := ⟨_, rfl⟩
  have hA0 := HA.out.drewN nq
  rw [← hW0] at hA0 ⊢
  have M0 := hid (show RFeedM B W0 rp vb rf mv s F from by rw [hW0]; exact Hh.out.drewN nq)
  have HW0 := hid hW0
  have hB0 : B ≤ W0.heap.size := by rw [hW0]; exact hB
  clear hW0
  clear f0 f1 f2 f3 f4 f5 a0 a1 a2 a3 a4 gf4 gf5 ga0 ga1 ga2 ga3 ga4 hne
  have f0 : W0.cell? ⟨rf, 0, none⟩ = some (.pointer (some ⟨rp, 0, none⟩)) := hA0.f.cell 0
  have f1 : W0.cell? ⟨rf, 1, none⟩ = some (.int .i64 F.first) := hA0.f.cell 1
  have f2 : W0.cell? ⟨rf, 2, none⟩ = some (.int .i64 F.n) := hA0.f.cell 2
  have f3 : W0.cell? ⟨rf, 3, none⟩ = some (.int .u64 F.last) := hA0.f.cell 3
  have f4 : W0.cell? ⟨rf, 4, none⟩ = some (.bool F.pushing) := hA0.f.cell 4
  have f5 : W0.cell? ⟨rf, 5, none⟩ = some (.bool F.receiving) := hA0.f.cell 5
  have a0 : W0.cell? ⟨rb, 0, none⟩ = some (.pointer (some ⟨rf, 0, none⟩)) := hA0.r.cell 0
  have a1 : W0.cell? ⟨rb, 1, none⟩ = some (.int .i64 q.t) := hA0.r.cell 1
  have a2 : W0.cell? ⟨rb, 2, none⟩ = some (.int .u64 q.p) := hA0.r.cell 2
  have a3 : W0.cell? ⟨rb, 3, none⟩ = some (.int .u64 q.l) := hA0.r.cell 3
  have a4 : W0.cell? ⟨rb, 4, none⟩ = some (.int .u8 q.ph) := hA0.r.cell 4
  have gf4 := hA0.f.free 4
  have gf5 := hA0.f.free 5
  have ga0 := hA0.r.free 0
  have ga1 := hA0.r.free 1
  have ga2 := hA0.r.free 2
  have ga3 := hA0.r.free 3
  have ga4 := hA0.r.free 4
  have hne := hA0.ne
  have HA0 := hid hA0
  clear hA0
  refine Mix.wp_region_mix (fun _ => True) (fun i => ([0, 0, 0, 0, 0, 0, 0, 0, 0, 0, 0, 0, 0, 2, 0, 0, 0, 0, 0] : List Nat).getD i 0) [0, 1, 2, 3, 4, 5, 6, 7, 8, 9, 10, 11, 12, 13, 14, 15, 16, 17, 18] (by kernel_rfl) (by kernel_rfl) ?_
  repeat (first | (refine Mix.mix_q (by simp only [List.getElem?_toArray, List.getElem?_cons_zero, List.getElem?_cons_succ]; exact rfl) rfl ?_; go_big_quiet_step (fail); refine wpQuiet_nil ?_) | (refine Mix.mix_p (by simp only [List.getElem?_toArray, List.getElem?_cons_zero, List.getElem?_cons_succ]; exact rfl) rfl rfl ?_; go_big_quiet_step (fail); refine wpQuiet_nil ?_))
  refine Mix.mix_e (by simp only [List.getElem?_toArray, List.getElem?_cons_zero, List.getElem?_cons_succ]; exact rfl) rfl fun W hW => ?_
  obtain ⟨n1, rfl⟩ := hW
  go_wp2_with fail
  refine (rload_ok B rp vb mv s q.t (F.first + 2 : Nat) _ (rbank_drew HA0.out.b n1) hlen hB0 ⟨ht.1, ht.2, by omega, by omega⟩).mono ?_
  rintro e w1 ⟨rfl, hs1⟩
  obtain ⟨mv', hA1⟩ := (HA0.out.drewN n1).call hs1
  rw [Int.toNat_natCast]
  clear f0 f1 f2 f3 f4 f5 a0 a1 a2 a3 a4 gf4 gf5 ga0 ga1 ga2 ga3 ga4 hne
  have f0 : w1.cell? ⟨rf, 0, none⟩ = some (.pointer (some ⟨rp, 0, none⟩)) := hA1.f.cell 0
  have f1 : w1.cell? ⟨rf, 1, none⟩ = some (.int .i64 F.first) := hA1.f.cell 1
  have f2 : w1.cell? ⟨rf, 2, none⟩ = some (.int .i64 F.n) := hA1.f.cell 2
  have f3 : w1.cell? ⟨rf, 3, none⟩ = some (.int .u64 F.last) := hA1.f.cell 3
  have f4 : w1.cell? ⟨rf, 4, none⟩ = some (.bool F.pushing) := hA1.f.cell 4
  have f5 : w1.cell? ⟨rf, 5, none⟩ = some (.bool F.receiving) := hA1.f.cell 5
  have a0 : w1.cell? ⟨rb, 0, none⟩ = some (.pointer (some ⟨rf, 0, none⟩)) := hA1.r.cell 0
  have a1 : w1.cell? ⟨rb, 1, none⟩ = some (.int .i64 q.t) := hA1.r.cell 1
  have a2 : w1.cell? ⟨rb, 2, none⟩ = some (.int .u64 q.p) := hA1.r.cell 2
  have a3 : w1.cell? ⟨rb, 3, none⟩ = some (.int .u64 q.l) := hA1.r.cell 3
  have a4 : w1.cell? ⟨rb, 4, none⟩ = some (.int .u8 q.ph) := hA1.r.cell 4
  have gf4 := hA1.f.free 4
  have gf5 := hA1.f.free 5
  have ga0 := hA1.r.free 0
  have ga1 := hA1.r.free 1
  have ga2 := hA1.r.free 2
  have ga3 := hA1.r.free 3
  have ga4 := hA1.r.free 4
  have hne := hA1.ne
  have HA1 := hid hA1
  have Hs1 := hid hs1
  clear hA1 hs1
  go_wp2_with fail
  repeat (first | (refine Mix.mix_q (by simp only [List.getElem?_toArray, List.getElem?_cons_zero, List.getElem?_cons_succ]; exact rfl) rfl ?_; go_big_quiet_step (fail); refine wpQuiet_nil ?_) | (refine Mix.mix_p (by simp only [List.getElem?_toArray, List.getElem?_cons_zero, List.getElem?_cons_succ]; exact rfl) rfl rfl ?_; go_big_quiet_step (fail); refine wpQuiet_nil ?_))
  intro n2
  go_wp2_with fail
  obtain ⟨W1, hW1⟩ : ∃ W1, W1 = w1.drewN n2 := ⟨_, rfl⟩
  have M1 := hid (show RFeedM B W1 rp vb rf mv' (s.load q.t (F.first + 2 : Nat)) F from by rw [hW1]; exact ⟨(HA1.out.drewN n2).b, (HA1.out.drewN n2).f, ⟨Hh.out.ok.room, Hh.out.ok.n1, Hh.out.ok.n2⟩, Hh.out.bf⟩)
  have hA2 := HA1.out.drewN n2
  rw [← hW1] at hA2
  have TQ := hid (show ∀ k, Calls Try.prog 70 #[.pointer (some ⟨rf, 0, none⟩)] (W1.drewN k) fun e w'' => e = .returned (.int .u64 tl) ∧ ∃ m, w'' = W1.drewN m from fun k => by rw [HTL.out]; exact rtail_q B rp vb rf mv' (s.load q.t (F.first + 2 : Nat)) F W1 M1.out k)
  have hdx : lk s.vs (F.first + 2) = hd := HHD.out.symm
  try rw [← hW1]
  try rw [hdx]
  clear hW1 hdx
  clear f0 f1 f2 f3 f4 f5 a0 a1 a2 a3 a4 gf4 gf5 ga0 ga1 ga2 ga3 ga4 hne
  have f0 : W1.cell? ⟨rf, 0, none⟩ = some (.pointer (some ⟨rp, 0, none⟩)) := hA2.f.cell 0
  have f1 : W1.cell? ⟨rf, 1, none⟩ = some (.int .i64 F.first) := hA2.f.cell 1
  have f2 : W1.cell? ⟨rf, 2, none⟩ = some (.int .i64 F.n) := hA2.f.cell 2
  have f3 : W1.cell? ⟨rf, 3, none⟩ = some (.int .u64 F.last) := hA2.f.cell 3
  have f4 : W1.cell? ⟨rf, 4, none⟩ = some (.bool F.pushing) := hA2.f.cell 4
  have f5 : W1.cell? ⟨rf, 5, none⟩ = some (.bool F.receiving) := hA2.f.cell 5
  have a0 : W1.cell? ⟨rb, 0, none⟩ = some (.pointer (some ⟨rf, 0, none⟩)) := hA2.r.cell 0
  have a1 : W1.cell? ⟨rb, 1, none⟩ = some (.int .i64 q.t) := hA2.r.cell 1
  have a2 : W1.cell? ⟨rb, 2, none⟩ = some (.int .u64 q.p) := hA2.r.cell 2
  have a3 : W1.cell? ⟨rb, 3, none⟩ = some (.int .u64 q.l) := hA2.r.cell 3
  have a4 : W1.cell? ⟨rb, 4, none⟩ = some (.int .u8 q.ph) := hA2.r.cell 4
  have gf4 := hA2.f.free 4
  have gf5 := hA2.f.free 5
  have ga0 := hA2.r.free 0
  have ga1 := hA2.r.free 1
  have ga2 := hA2.r.free 2
  have ga3 := hA2.r.free 3
  have ga4 := hA2.r.free 4
  have hne := hA2.ne
  have HA2 := hid hA2
  clear hA2
  go_quiet ((go_at_call 70; exact TQ.out _))
  go_wp2_with fail
  go_ret2
  exact rpres_close 32 Hh.out (HA2.out.drewN _) rfl rfl rfl rfl (by rfl)
set_option maxRecDepth 100000 in
set_option maxHeartbeats 1000000 in
theorem rps30 (hph : q.ph = 30)  : Calls Try.prog 40 #[.pointer (some ⟨rb, 0, none⟩)] w (RPRes B rp vb rf rb mv F q (pstep s F q) w) := by
  have he : pstep s F q = (s.store q.t (F.ent (cTail s F)) q.p, 31, q.l) := by unfold pstep; rw [if_neg (by rw [hph]; decide)]; rw [if_neg (by rw [hph]; decide)]; rw [if_neg (by rw [hph]; decide)]; rw [if_neg (by rw [hph]; decide)]; rw [if_pos hph]
  rw [he]
  clear he
  have hA := AtR.start h hq
  have hn := h.hn
  have hn1 := h.ok.n1
  have hn2 := h.ok.n2
  have hroom := h.ok.room
  have f0 : w.cell? ⟨rf, 0, none⟩ = some (.pointer (some ⟨rp, 0, none⟩)) := hA.f.cell 0
  have f1 : w.cell? ⟨rf, 1, none⟩ = some (.int .i64 F.first) := hA.f.cell 1
  have f2 : w.cell? ⟨rf, 2, none⟩ = some (.int .i64 F.n) := hA.f.cell 2
  have f3 : w.cell? ⟨rf, 3, none⟩ = some (.int .u64 F.last) := hA.f.cell 3
  have f4 : w.cell? ⟨rf, 4, none⟩ = some (.bool F.pushing) := hA.f.cell 4
  have f5 : w.cell? ⟨rf, 5, none⟩ = some (.bool F.receiving) := hA.f.cell 5
  have a0 : w.cell? ⟨rb, 0, none⟩ = some (.pointer (some ⟨rf, 0, none⟩)) := hA.r.cell 0
  have a1 : w.cell? ⟨rb, 1, none⟩ = some (.int .i64 q.t) := hA.r.cell 1
  have a2 : w.cell? ⟨rb, 2, none⟩ = some (.int .u64 q.p) := hA.r.cell 2
  have a3 : w.cell? ⟨rb, 3, none⟩ = some (.int .u64 q.l) := hA.r.cell 3
  have a4 : w.cell? ⟨rb, 4, none⟩ = some (.int .u8 q.ph) := hA.r.cell 4
  have gf4 := hA.f.free 4
  have gf5 := hA.f.free 5
  have ga0 := hA.r.free 0
  have ga1 := hA.r.free 1
  have ga2 := hA.r.free 2
  have ga3 := hA.r.free 3
  have ga4 := hA.r.free 4
  have hne := hA.ne
  have bp0 : (q.ph == 0) = false := by rw [beq_eq_false_iff_ne, hph]; decide
  have bp26 : (q.ph == 26) = false := by rw [beq_eq_false_iff_ne, hph]; decide
  have bp27 : (q.ph == 27) = false := by rw [beq_eq_false_iff_ne, hph]; decide
  have bp28 : (q.ph == 28) = false := by rw [beq_eq_false_iff_ne, hph]; decide
  have bp29 : (q.ph == 29) = false := by rw [beq_eq_false_iff_ne, hph]; decide
  have bp30 : (q.ph == 30) = true := by rw [beq_iff_eq]; exact hph
  have bp31 : (q.ph == 31) = false := by rw [beq_eq_false_iff_ne, hph]; decide
  have bp32 : (q.ph == 32) = false := by rw [beq_eq_false_iff_ne, hph]; decide
  obtain ⟨tl, htl⟩ : ∃ y, y = cTail s F := ⟨_, rfl⟩
  rw [← htl]
  have hTl : 0 ≤ tl ∧ tl < 18446744073709551616 := by rw [htl]; omega
  have HTLB := hid hTl
  have HTL := hid htl
  have hel := ent_lt h.ok tl
  clear htl hH hTl
  have Hph := hid hph
  have Hh := hid h
  have HA := hid hA
  clear hph hA
  go_enter Try.func40, Try.ntmps40
  go_wp2_with fail
  go_quiet (fail)
  go_wp2_with fail
  obtain ⟨W0, hW0⟩ : ∃ W0, W0 = w.drewN nq := ⟨_, rfl⟩
  have hA0 := HA.out.drewN nq
  rw [← hW0] at hA0 ⊢
  have M0 := hid (show RFeedM B W0 rp vb rf mv s F from by rw [hW0]; exact Hh.out.drewN nq)
  have HW0 := hid hW0
  have hB0 : B ≤ W0.heap.size := by rw [hW0]; exact hB
  clear hW0
  clear f0 f1 f2 f3 f4 f5 a0 a1 a2 a3 a4 gf4 gf5 ga0 ga1 ga2 ga3 ga4 hne
  have f0 : W0.cell? ⟨rf, 0, none⟩ = some (.pointer (some ⟨rp, 0, none⟩)) := hA0.f.cell 0
  have f1 : W0.cell? ⟨rf, 1, none⟩ = some (.int .i64 F.first) := hA0.f.cell 1
  have f2 : W0.cell? ⟨rf, 2, none⟩ = some (.int .i64 F.n) := hA0.f.cell 2
  have f3 : W0.cell? ⟨rf, 3, none⟩ = some (.int .u64 F.last) := hA0.f.cell 3
  have f4 : W0.cell? ⟨rf, 4, none⟩ = some (.bool F.pushing) := hA0.f.cell 4
  have f5 : W0.cell? ⟨rf, 5, none⟩ = some (.bool F.receiving) := hA0.f.cell 5
  have a0 : W0.cell? ⟨rb, 0, none⟩ = some (.pointer (some ⟨rf, 0, none⟩)) := hA0.r.cell 0
  have a1 : W0.cell? ⟨rb, 1, none⟩ = some (.int .i64 q.t) := hA0.r.cell 1
  have a2 : W0.cell? ⟨rb, 2, none⟩ = some (.int .u64 q.p) := hA0.r.cell 2
  have a3 : W0.cell? ⟨rb, 3, none⟩ = some (.int .u64 q.l) := hA0.r.cell 3
  have a4 : W0.cell? ⟨rb, 4, none⟩ = some (.int .u8 q.ph) := hA0.r.cell 4
  have gf4 := hA0.f.free 4
  have gf5 := hA0.f.free 5
  have ga0 := hA0.r.free 0
  have ga1 := hA0.r.free 1
  have ga2 := hA0.r.free 2
  have ga3 := hA0.r.free 3
  have ga4 := hA0.r.free 4
  have hne := hA0.ne
  have HA0 := hid hA0
  clear hA0
  have TQ := hid (show ∀ k, Calls Try.prog 70 #[.pointer (some ⟨rf, 0, none⟩)] (W0.drewN k) fun e w'' => e = .returned (.int .u64 tl) ∧ ∃ m, w'' = W0.drewN m from fun k => by rw [HTL.out]; exact rtail_q B rp vb rf mv s F W0 M0.out k)
  refine Mix.wp_region_mix (fun _ => True) (fun i => ([0, 0, 0, 0, 0, 0, 0, 0, 0, 0, 0, 0, 0, 0, 0, 0, 2] : List Nat).getD i 0) [0, 1, 2, 3, 4, 5, 6, 7, 8, 9, 10, 11, 12, 13, 14, 15, 16] (by kernel_rfl) (by kernel_rfl) ?_
  repeat (first | (refine Mix.mix_q (by simp only [List.getElem?_toArray, List.getElem?_cons_zero, List.getElem?_cons_succ]; exact rfl) rfl ?_; go_big_quiet_step ((first | (go_at_call 70; exact TQ.out _) | (go_at_call 71; exact rfent_q B rp vb rf mv s F W0 M0.out tl HTLB.out _))); refine wpQuiet_nil ?_) | (refine Mix.mix_p (by simp only [List.getElem?_toArray, List.getElem?_cons_zero, List.getElem?_cons_succ]; exact rfl) rfl rfl ?_; go_big_quiet_step (fail); refine wpQuiet_nil ?_))
  refine Mix.mix_e (by simp only [List.getElem?_toArray, List.getElem?_cons_zero, List.getElem?_cons_succ]; exact rfl) rfl fun W hW => ?_
  obtain ⟨n1, rfl⟩ := hW
  go_wp2_with fail
  refine (rstore_ok B rp vb mv s q.t (F.ent tl : Nat) q.p _ (rbank_drew HA0.out.b n1) hlen hB0 ⟨ht.1, ht.2, by omega, by omega⟩).mono ?_
  rintro e w1 ⟨rfl, hs1⟩
  obtain ⟨mv', hA1⟩ := (HA0.out.drewN n1).call hs1
  skip
  clear f0 f1 f2 f3 f4 f5 a0 a1 a2 a3 a4 gf4 gf5 ga0 ga1 ga2 ga3 ga4 hne
  have f0 : w1.cell? ⟨rf, 0, none⟩ = some (.pointer (some ⟨rp, 0, none⟩)) := hA1.f.cell 0
  have f1 : w1.cell? ⟨rf, 1, none⟩ = some (.int .i64 F.first) := hA1.f.cell 1
  have f2 : w1.cell? ⟨rf, 2, none⟩ = some (.int .i64 F.n) := hA1.f.cell 2
  have f3 : w1.cell? ⟨rf, 3, none⟩ = some (.int .u64 F.last) := hA1.f.cell 3
  have f4 : w1.cell? ⟨rf, 4, none⟩ = some (.bool F.pushing) := hA1.f.cell 4
  have f5 : w1.cell? ⟨rf, 5, none⟩ = some (.bool F.receiving) := hA1.f.cell 5
  have a0 : w1.cell? ⟨rb, 0, none⟩ = some (.pointer (some ⟨rf, 0, none⟩)) := hA1.r.cell 0
  have a1 : w1.cell? ⟨rb, 1, none⟩ = some (.int .i64 q.t) := hA1.r.cell 1
  have a2 : w1.cell? ⟨rb, 2, none⟩ = some (.int .u64 q.p) := hA1.r.cell 2
  have a3 : w1.cell? ⟨rb, 3, none⟩ = some (.int .u64 q.l) := hA1.r.cell 3
  have a4 : w1.cell? ⟨rb, 4, none⟩ = some (.int .u8 q.ph) := hA1.r.cell 4
  have gf4 := hA1.f.free 4
  have gf5 := hA1.f.free 5
  have ga0 := hA1.r.free 0
  have ga1 := hA1.r.free 1
  have ga2 := hA1.r.free 2
  have ga3 := hA1.r.free 3
  have ga4 := hA1.r.free 4
  have hne := hA1.ne
  have HA1 := hid hA1
  have Hs1 := hid hs1
  clear hA1 hs1
  go_wp2_with fail
  intro n2
  go_wp2_with fail
  go_ret2
  exact rpres_close 31 Hh.out (HA1.out.drewN n2) rfl rfl rfl (List.length_set ..) (by rfl)
set_option maxRecDepth 100000 in
set_option maxHeartbeats 1000000 in
theorem rps31 (hph : q.ph = 31)  : Calls Try.prog 40 #[.pointer (some ⟨rb, 0, none⟩)] w (RPRes B rp vb rf rb mv F q (pstep s F q) w) := by
  have he : pstep s F q = (s.store q.t (F.first + 3 : Nat) (w64 (cTail s F + 1)), 0, q.l) := by unfold pstep; rw [if_neg (by rw [hph]; decide)]; rw [if_neg (by rw [hph]; decide)]; rw [if_neg (by rw [hph]; decide)]; rw [if_neg (by rw [hph]; decide)]; rw [if_neg (by rw [hph]; decide)]; rw [if_pos hph]
  rw [he]
  clear he
  have hA := AtR.start h hq
  have hn := h.hn
  have hn1 := h.ok.n1
  have hn2 := h.ok.n2
  have hroom := h.ok.room
  have f0 : w.cell? ⟨rf, 0, none⟩ = some (.pointer (some ⟨rp, 0, none⟩)) := hA.f.cell 0
  have f1 : w.cell? ⟨rf, 1, none⟩ = some (.int .i64 F.first) := hA.f.cell 1
  have f2 : w.cell? ⟨rf, 2, none⟩ = some (.int .i64 F.n) := hA.f.cell 2
  have f3 : w.cell? ⟨rf, 3, none⟩ = some (.int .u64 F.last) := hA.f.cell 3
  have f4 : w.cell? ⟨rf, 4, none⟩ = some (.bool F.pushing) := hA.f.cell 4
  have f5 : w.cell? ⟨rf, 5, none⟩ = some (.bool F.receiving) := hA.f.cell 5
  have a0 : w.cell? ⟨rb, 0, none⟩ = some (.pointer (some ⟨rf, 0, none⟩)) := hA.r.cell 0
  have a1 : w.cell? ⟨rb, 1, none⟩ = some (.int .i64 q.t) := hA.r.cell 1
  have a2 : w.cell? ⟨rb, 2, none⟩ = some (.int .u64 q.p) := hA.r.cell 2
  have a3 : w.cell? ⟨rb, 3, none⟩ = some (.int .u64 q.l) := hA.r.cell 3
  have a4 : w.cell? ⟨rb, 4, none⟩ = some (.int .u8 q.ph) := hA.r.cell 4
  have gf4 := hA.f.free 4
  have gf5 := hA.f.free 5
  have ga0 := hA.r.free 0
  have ga1 := hA.r.free 1
  have ga2 := hA.r.free 2
  have ga3 := hA.r.free 3
  have ga4 := hA.r.free 4
  have hne := hA.ne
  have bp0 : (q.ph == 0) = false := by rw [beq_eq_false_iff_ne, hph]; decide
  have bp26 : (q.ph == 26) = false := by rw [beq_eq_false_iff_ne, hph]; decide
  have bp27 : (q.ph == 27) = false := by rw [beq_eq_false_iff_ne, hph]; decide
  have bp28 : (q.ph == 28) = false := by rw [beq_eq_false_iff_ne, hph]; decide
  have bp29 : (q.ph == 29) = false := by rw [beq_eq_false_iff_ne, hph]; decide
  have bp30 : (q.ph == 30) = false := by rw [beq_eq_false_iff_ne, hph]; decide
  have bp31 : (q.ph == 31) = true := by rw [beq_iff_eq]; exact hph
  have bp32 : (q.ph == 32) = false := by rw [beq_eq_false_iff_ne, hph]; decide
  obtain ⟨tl, htl⟩ : ∃ y, y = cTail s F := ⟨_, rfl⟩
  rw [← htl]
  have hTl : 0 ≤ tl ∧ tl < 18446744073709551616 := by rw [htl]; omega
  have HTLB := hid hTl
  have HTL := hid htl
  have hel := ent_lt h.ok tl
  clear htl hH hTl
  have hw : IntKind.u64.wrap (tl + 1) = w64 (tl + 1) := w64_wrap _
  obtain ⟨t1, ht1⟩ : ∃ t1, t1 = w64 (tl + 1) := ⟨_, rfl⟩
  rw [← ht1] at hw ⊢
  clear ht1
  have Hph := hid hph
  have Hh := hid h
  have HA := hid hA
  clear hph hA
  go_enter Try.func40, Try.ntmps40
  go_wp2_with fail
  go_quiet (fail)
  go_wp2_with fail
  obtain ⟨W0, hW0⟩ : ∃ W0, W0 = w.drewN nq := ⟨_, rfl⟩
  have hA0 := HA.out.drewN nq
  rw [← hW0] at hA0 ⊢
  have M0 := hid (show RFeedM B W0 rp vb rf mv s F from by rw [hW0]; exact Hh.out.drewN nq)
  have HW0 := hid hW0
  have hB0 : B ≤ W0.heap.size := by rw [hW0]; exact hB
  clear hW0
  clear f0 f1 f2 f3 f4 f5 a0 a1 a2 a3 a4 gf4 gf5 ga0 ga1 ga2 ga3 ga4 hne
  have f0 : W0.cell? ⟨rf, 0, none⟩ = some (.pointer (some ⟨rp, 0, none⟩)) := hA0.f.cell 0
  have f1 : W0.cell? ⟨rf, 1, none⟩ = some (.int .i64 F.first) := hA0.f.cell 1
  have f2 : W0.cell? ⟨rf, 2, none⟩ = some (.int .i64 F.n) := hA0.f.cell 2
  have f3 : W0.cell? ⟨rf, 3, none⟩ = some (.int .u64 F.last) := hA0.f.cell 3
  have f4 : W0.cell? ⟨rf, 4, none⟩ = some (.bool F.pushing) := hA0.f.cell 4
  have f5 : W0.cell? ⟨rf, 5, none⟩ = some (.bool F.receiving) := hA0.f.cell 5
  have a0 : W0.cell? ⟨rb, 0, none⟩ = some (.pointer (some ⟨rf, 0, none⟩)) := hA0.r.cell 0
  have a1 : W0.cell? ⟨rb, 1, none⟩ = some (.int .i64 q.t) := hA0.r.cell 1
  have a2 : W0.cell? ⟨rb, 2, none⟩ = some (.int .u64 q.p) := hA0.r.cell 2
  have a3 : W0.cell? ⟨rb, 3, none⟩ = some (.int .u64 q.l) := hA0.r.cell 3
  have a4 : W0.cell? ⟨rb, 4, none⟩ = some (.int .u8 q.ph) := hA0.r.cell 4
  have gf4 := hA0.f.free 4
  have gf5 := hA0.f.free 5
  have ga0 := hA0.r.free 0
  have ga1 := hA0.r.free 1
  have ga2 := hA0.r.free 2
  have ga3 := hA0.r.free 3
  have ga4 := hA0.r.free 4
  have hne := hA0.ne
  have HA0 := hid hA0
  clear hA0
  have TQ := hid (show ∀ k, Calls Try.prog 70 #[.pointer (some ⟨rf, 0, none⟩)] (W0.drewN k) fun e w'' => e = .returned (.int .u64 tl) ∧ ∃ m, w'' = W0.drewN m from fun k => by rw [HTL.out]; exact rtail_q B rp vb rf mv s F W0 M0.out k)
  refine Mix.wp_region_mix (fun _ => True) (fun i => ([0, 0, 0, 0, 0, 0, 0, 0, 0, 0, 0, 0, 0, 0, 0, 0, 2] : List Nat).getD i 0) [0, 1, 2, 3, 4, 5, 6, 7, 8, 9, 10, 11, 12, 13, 14, 15, 16] (by kernel_rfl) (by kernel_rfl) ?_
  repeat (first | (refine Mix.mix_q (by simp only [List.getElem?_toArray, List.getElem?_cons_zero, List.getElem?_cons_succ]; exact rfl) rfl ?_; go_big_quiet_step ((first | (go_at_call 70; exact TQ.out _) | (go_at_call 71; exact rfent_q B rp vb rf mv s F W0 M0.out tl HTLB.out _))); refine wpQuiet_nil ?_) | (refine Mix.mix_p (by simp only [List.getElem?_toArray, List.getElem?_cons_zero, List.getElem?_cons_succ]; exact rfl) rfl rfl ?_; go_big_quiet_step (fail); refine wpQuiet_nil ?_))
  refine Mix.mix_e (by simp only [List.getElem?_toArray, List.getElem?_cons_zero, List.getElem?_cons_succ]; exact rfl) rfl fun W hW => ?_
  obtain ⟨n1, rfl⟩ := hW
  go_wp2_with fail
  refine (rstore_ok B rp vb mv s q.t (F.first + 3 : Nat) t1 _ (rbank_drew HA0.out.b n1) hlen hB0 ⟨ht.1, ht.2, by omega, by omega⟩).mono ?_
  rintro e w1 ⟨rfl, hs1⟩
  obtain ⟨mv', hA1⟩ := (HA0.out.drewN n1).call hs1
  skip
  clear f0 f1 f2 f3 f4 f5 a0 a1 a2 a3 a4 gf4 gf5 ga0 ga1 ga2 ga3 ga4 hne
  have f0 : w1.cell? ⟨rf, 0, none⟩ = some (.pointer (some ⟨rp, 0, none⟩)) := hA1.f.cell 0
  have f1 : w1.cell? ⟨rf, 1, none⟩ = some (.int .i64 F.first) := hA1.f.cell 1
  have f2 : w1.cell? ⟨rf, 2, none⟩ = some (.int .i64 F.n) := hA1.f.cell 2
  have f3 : w1.cell? ⟨rf, 3, none⟩ = some (.int .u64 F.last) := hA1.f.cell 3
  have f4 : w1.cell? ⟨rf, 4, none⟩ = some (.bool F.pushing) := hA1.f.cell 4
  have f5 : w1.cell? ⟨rf, 5, none⟩ = some (.bool F.receiving) := hA1.f.cell 5
  have a0 : w1.cell? ⟨rb, 0, none⟩ = some (.pointer (some ⟨rf, 0, none⟩)) := hA1.r.cell 0
  have a1 : w1.cell? ⟨rb, 1, none⟩ = some (.int .i64 q.t) := hA1.r.cell 1
  have a2 : w1.cell? ⟨rb, 2, none⟩ = some (.int .u64 q.p) := hA1.r.cell 2
  have a3 : w1.cell? ⟨rb, 3, none⟩ = some (.int .u64 q.l) := hA1.r.cell 3
  have a4 : w1.cell? ⟨rb, 4, none⟩ = some (.int .u8 q.ph) := hA1.r.cell 4
  have gf4 := hA1.f.free 4
  have gf5 := hA1.f.free 5
  have ga0 := hA1.r.free 0
  have ga1 := hA1.r.free 1
  have ga2 := hA1.r.free 2
  have ga3 := hA1.r.free 3
  have ga4 := hA1.r.free 4
  have hne := hA1.ne
  have HA1 := hid hA1
  have Hs1 := hid hs1
  clear hA1 hs1
  go_wp2_with fail
  intro n2
  go_wp2_with fail
  go_ret2
  exact rpres_close 0 Hh.out (HA1.out.drewN n2) rfl rfl rfl (List.length_set ..) (by rfl)
set_option maxRecDepth 100000 in
set_option maxHeartbeats 1000000 in
theorem rps32 (hph : q.ph = 32)  : Calls Try.prog 40 #[.pointer (some ⟨rb, 0, none⟩)] w (RPRes B rp vb rf rb mv F q (pstep s F q) w) := by
  have he : pstep s F q = (s.store q.t (F.first + 1 : Nat) q.p, 0, q.l) := by unfold pstep; rw [if_neg (by rw [hph]; decide)]; rw [if_neg (by rw [hph]; decide)]; rw [if_neg (by rw [hph]; decide)]; rw [if_neg (by rw [hph]; decide)]; rw [if_neg (by rw [hph]; decide)]; rw [if_neg (by rw [hph]; decide)]
  rw [he]
  clear he
  have hA := AtR.start h hq
  have hn := h.hn
  have hn1 := h.ok.n1
  have hn2 := h.ok.n2
  have hroom := h.ok.room
  have f0 : w.cell? ⟨rf, 0, none⟩ = some (.pointer (some ⟨rp, 0, none⟩)) := hA.f.cell 0
  have f1 : w.cell? ⟨rf, 1, none⟩ = some (.int .i64 F.first) := hA.f.cell 1
  have f2 : w.cell? ⟨rf, 2, none⟩ = some (.int .i64 F.n) := hA.f.cell 2
  have f3 : w.cell? ⟨rf, 3, none⟩ = some (.int .u64 F.last) := hA.f.cell 3
  have f4 : w.cell? ⟨rf, 4, none⟩ = some (.bool F.pushing) := hA.f.cell 4
  have f5 : w.cell? ⟨rf, 5, none⟩ = some (.bool F.receiving) := hA.f.cell 5
  have a0 : w.cell? ⟨rb, 0, none⟩ = some (.pointer (some ⟨rf, 0, none⟩)) := hA.r.cell 0
  have a1 : w.cell? ⟨rb, 1, none⟩ = some (.int .i64 q.t) := hA.r.cell 1
  have a2 : w.cell? ⟨rb, 2, none⟩ = some (.int .u64 q.p) := hA.r.cell 2
  have a3 : w.cell? ⟨rb, 3, none⟩ = some (.int .u64 q.l) := hA.r.cell 3
  have a4 : w.cell? ⟨rb, 4, none⟩ = some (.int .u8 q.ph) := hA.r.cell 4
  have gf4 := hA.f.free 4
  have gf5 := hA.f.free 5
  have ga0 := hA.r.free 0
  have ga1 := hA.r.free 1
  have ga2 := hA.r.free 2
  have ga3 := hA.r.free 3
  have ga4 := hA.r.free 4
  have hne := hA.ne
  have bp0 : (q.ph == 0) = false := by rw [beq_eq_false_iff_ne, hph]; decide
  have bp26 : (q.ph == 26) = false := by rw [beq_eq_false_iff_ne, hph]; decide
  have bp27 : (q.ph == 27) = false := by rw [beq_eq_false_iff_ne, hph]; decide
  have bp28 : (q.ph == 28) = false := by rw [beq_eq_false_iff_ne, hph]; decide
  have bp29 : (q.ph == 29) = false := by rw [beq_eq_false_iff_ne, hph]; decide
  have bp30 : (q.ph == 30) = false := by rw [beq_eq_false_iff_ne, hph]; decide
  have bp31 : (q.ph == 31) = false := by rw [beq_eq_false_iff_ne, hph]; decide
  have bp32 : (q.ph == 32) = true := by rw [beq_iff_eq]; exact hph
  have Hph := hid hph
  have Hh := hid h
  have HA := hid hA
  clear hph hA
  go_enter Try.func40, Try.ntmps40
  go_wp2_with fail
  go_quiet (fail)
  go_wp2_with fail
  obtain ⟨W0, hW0⟩ : ∃ W0, W0 = w.drewN nq := ⟨_, rfl⟩
  have hA0 := HA.out.drewN nq
  rw [← hW0] at hA0 ⊢
  have M0 := hid (show RFeedM B W0 rp vb rf mv s F from by rw [hW0]; exact Hh.out.drewN nq)
  have HW0 := hid hW0
  have hB0 : B ≤ W0.heap.size := by rw [hW0]; exact hB
  clear hW0
  clear f0 f1 f2 f3 f4 f5 a0 a1 a2 a3 a4 gf4 gf5 ga0 ga1 ga2 ga3 ga4 hne
  have f0 : W0.cell? ⟨rf, 0, none⟩ = some (.pointer (some ⟨rp, 0, none⟩)) := hA0.f.cell 0
  have f1 : W0.cell? ⟨rf, 1, none⟩ = some (.int .i64 F.first) := hA0.f.cell 1
  have f2 : W0.cell? ⟨rf, 2, none⟩ = some (.int .i64 F.n) := hA0.f.cell 2
  have f3 : W0.cell? ⟨rf, 3, none⟩ = some (.int .u64 F.last) := hA0.f.cell 3
  have f4 : W0.cell? ⟨rf, 4, none⟩ = some (.bool F.pushing) := hA0.f.cell 4
  have f5 : W0.cell? ⟨rf, 5, none⟩ = some (.bool F.receiving) := hA0.f.cell 5
  have a0 : W0.cell? ⟨rb, 0, none⟩ = some (.pointer (some ⟨rf, 0, none⟩)) := hA0.r.cell 0
  have a1 : W0.cell? ⟨rb, 1, none⟩ = some (.int .i64 q.t) := hA0.r.cell 1
  have a2 : W0.cell? ⟨rb, 2, none⟩ = some (.int .u64 q.p) := hA0.r.cell 2
  have a3 : W0.cell? ⟨rb, 3, none⟩ = some (.int .u64 q.l) := hA0.r.cell 3
  have a4 : W0.cell? ⟨rb, 4, none⟩ = some (.int .u8 q.ph) := hA0.r.cell 4
  have gf4 := hA0.f.free 4
  have gf5 := hA0.f.free 5
  have ga0 := hA0.r.free 0
  have ga1 := hA0.r.free 1
  have ga2 := hA0.r.free 2
  have ga3 := hA0.r.free 3
  have ga4 := hA0.r.free 4
  have hne := hA0.ne
  have HA0 := hid hA0
  clear hA0
  refine Mix.wp_region_mix (fun _ => True) (fun i => ([0, 0, 0, 0, 0, 0, 0, 0, 0, 0, 0, 0, 0, 0, 0, 0, 0, 2] : List Nat).getD i 0) [0, 1, 2, 3, 4, 5, 6, 7, 8, 9, 10, 11, 12, 13, 14, 15, 16, 17] (by kernel_rfl) (by kernel_rfl) ?_
  repeat (first | (refine Mix.mix_q (by simp only [List.getElem?_toArray, List.getElem?_cons_zero, List.getElem?_cons_succ]; exact rfl) rfl ?_; go_big_quiet_step (fail); refine wpQuiet_nil ?_) | (refine Mix.mix_p (by simp only [List.getElem?_toArray, List.getElem?_cons_zero, List.getElem?_cons_succ]; exact rfl) rfl rfl ?_; go_big_quiet_step (fail); refine wpQuiet_nil ?_))
  refine Mix.mix_e (by simp only [List.getElem?_toArray, List.getElem?_cons_zero, List.getElem?_cons_succ]; exact rfl) rfl fun W hW => ?_
  obtain ⟨n1, rfl⟩ := hW
  go_wp2_with fail
  refine (rstore_ok B rp vb mv s q.t (F.first + 1 : Nat) q.p _ (rbank_drew HA0.out.b n1) hlen hB0 ⟨ht.1, ht.2, by omega, by omega⟩).mono ?_
  rintro e w1 ⟨rfl, hs1⟩
  obtain ⟨mv', hA1⟩ := (HA0.out.drewN n1).call hs1
  skip
  clear f0 f1 f2 f3 f4 f5 a0 a1 a2 a3 a4 gf4 gf5 ga0 ga1 ga2 ga3 ga4 hne
  have f0 : w1.cell? ⟨rf, 0, none⟩ = some (.pointer (some ⟨rp, 0, none⟩)) := hA1.f.cell 0
  have f1 : w1.cell? ⟨rf, 1, none⟩ = some (.int .i64 F.first) := hA1.f.cell 1
  have f2 : w1.cell? ⟨rf, 2, none⟩ = some (.int .i64 F.n) := hA1.f.cell 2
  have f3 : w1.cell? ⟨rf, 3, none⟩ = some (.int .u64 F.last) := hA1.f.cell 3
  have f4 : w1.cell? ⟨rf, 4, none⟩ = some (.bool F.pushing) := hA1.f.cell 4
  have f5 : w1.cell? ⟨rf, 5, none⟩ = some (.bool F.receiving) := hA1.f.cell 5
  have a0 : w1.cell? ⟨rb, 0, none⟩ = some (.pointer (some ⟨rf, 0, none⟩)) := hA1.r.cell 0
  have a1 : w1.cell? ⟨rb, 1, none⟩ = some (.int .i64 q.t) := hA1.r.cell 1
  have a2 : w1.cell? ⟨rb, 2, none⟩ = some (.int .u64 q.p) := hA1.r.cell 2
  have a3 : w1.cell? ⟨rb, 3, none⟩ = some (.int .u64 q.l) := hA1.r.cell 3
  have a4 : w1.cell? ⟨rb, 4, none⟩ = some (.int .u8 q.ph) := hA1.r.cell 4
  have gf4 := hA1.f.free 4
  have gf5 := hA1.f.free 5
  have ga0 := hA1.r.free 0
  have ga1 := hA1.r.free 1
  have ga2 := hA1.r.free 2
  have ga3 := hA1.r.free 3
  have ga4 := hA1.r.free 4
  have hne := hA1.ne
  have HA1 := hid hA1
  have Hs1 := hid hs1
  clear hA1 hs1
  go_wp2_with fail
  intro n2
  go_wp2_with fail
  go_ret2
  exact rpres_close 0 Hh.out (HA1.out.drewN n2) rfl rfl rfl (List.length_set ..) (by rfl)
set_option maxRecDepth 100000 in
set_option maxHeartbeats 400000 in
theorem rps0 (hph : q.ph = 0) : Calls Try.prog 40 #[.pointer (some ⟨rb, 0, none⟩)] w fun e w' => e = .returned (.tuple #[.int .u8 0, .bool true]) ∧ ∃ n, w' = w.drewN n := by
  have a0 : w.cell? ⟨rb, 0, none⟩ = some (.pointer (some ⟨rf, 0, none⟩)) := hq.cell 0
  have a4 : w.cell? ⟨rb, 4, none⟩ = some (.int .u8 q.ph) := hq.cell 4
  have bp0 : (q.ph == 0) = true := by rw [beq_iff_eq]; exact hph
  have bp26 : (q.ph == 26) = false := by rw [beq_eq_false_iff_ne, hph]; decide
  have bp27 : (q.ph == 27) = false := by rw [beq_eq_false_iff_ne, hph]; decide
  have bp28 : (q.ph == 28) = false := by rw [beq_eq_false_iff_ne, hph]; decide
  have bp29 : (q.ph == 29) = false := by rw [beq_eq_false_iff_ne, hph]; decide
  have bp30 : (q.ph == 30) = false := by rw [beq_eq_false_iff_ne, hph]; decide
  have bp31 : (q.ph == 31) = false := by rw [beq_eq_false_iff_ne, hph]; decide
  have bp32 : (q.ph == 32) = false := by rw [beq_eq_false_iff_ne, hph]; decide
  clear h hq
  go_enter Try.func40, Try.ntmps40
  go_wp2_with fail
  go_quiet (fail)
  go_wp2_with fail
  go_ret2
  exact ⟨rfl, _, rfl⟩
/-- A step of a push. -/
theorem rpstep_any (hph : q.ph = 26 ∨ q.ph = 27 ∨ q.ph = 28 ∨ q.ph = 29 ∨ q.ph = 30 ∨ q.ph = 31 ∨ q.ph = 32) : Calls Try.prog 40 #[.pointer (some ⟨rb, 0, none⟩)] w (RPRes B rp vb rf rb mv F q (pstep s F q) w) := by
  rcases hph with e | e | e | e | e | e | e
  · by_cases hc : cAct s F = 0
    · exact rps26a B rp vb rf rb mv s F q w h hq ht hlen hB hH e hc
    · exact rps26b B rp vb rf rb mv s F q w h hq ht hlen hB hH e hc
  · by_cases hc : cLag s F = 0
    · exact rps27a B rp vb rf rb mv s F q w h hq ht hlen hB hH e hc
    · exact rps27b B rp vb rf rb mv s F q w h hq ht hlen hB hH e hc
  · by_cases hc : cLag s F = q.l
    · exact rps28a B rp vb rf rb mv s F q w h hq ht hlen hB hH e hc
    · exact rps28b B rp vb rf rb mv s F q w h hq ht hlen hB hH e hc
  · by_cases hc : w64 (cTail s F - cHead s F) < F.n
    · exact rps29a B rp vb rf rb mv s F q w h hq ht hlen hB hH e hc
    · exact rps29b B rp vb rf rb mv s F q w h hq ht hlen hB hH e hc
  · exact rps30 B rp vb rf rb mv s F q w h hq ht hlen hB hH e
  · exact rps31 B rp vb rf rb mv s F q w h hq ht hlen hB hH e
  · exact rps32 B rp vb rf rb mv s F q w h hq ht hlen hB hH e
end
end Go.Proofs.Ytonjbofdmmnpdaa
