/- The steps of the reference's receptions. -/
import Derived.Test.YtonjbofdmmnpdaaRFB
namespace Go.Proofs.Ytonjbofdmmnpdaa
open Go.RowKit
set_option linter.unusedVariables false
set_option linter.unusedSimpArgs false
set_option linter.unusedSectionVars false

def RRRes (B rp vb rf rb : Nat) (mv : Value) (F : Fd) (r : Rd) (o : BS × Rd) (v' : Int) (w : World) (e : Ending) (w' : World) : Prop :=
  e = .returned (.tuple #[.int .u8 r.ph, .bool (o.2.ph == 0)]) ∧ ∃ mv', RFeedM B w' rp vb rf mv' o.1 (F.rcv (o.2.ph != 0)) ∧ Blk w' rb 118 (rrdCells rf o.2 v') ∧ Ch (fun b => FP rp vb mv b ∨ b = rf ∨ b = rb) w w' ∧ Fresh w mv mv'
theorem rrres_close {B rp vb rf rb : Nat} {mv mv' : Value} {s s' : BS} {F : Fd} {r r1 : Rd} {v' ph : Int} {w W w' : World} {fc rc : Array Value} (nx : Int) (h : RFeedM B w rp vb rf mv s F) (ha : AtR B rp vb rf rb mv mv' 118 s'.vs s'.lg fc rc w W) (hfc : fc = rfdCells rp F) (hrc : rc.setIfInBounds 6 (.int .u8 nx) = rrdCells rf r1 v') (hnx : r1.ph = nx) (hph : r.ph = ph)
    (hl : s'.vs.length = s.vs.length) (hw : w' = ((W.setCell ⟨rb, 6, none⟩ (.int .u8 nx)).setCell ⟨rf, 5, none⟩ (.bool (nx != 0)))) :
    RRRes B rp vb rf rb mv F r (s', r1) v' w (.returned (.tuple #[.int .u8 ph, .bool (nx == 0)])) w' := by
  subst hw hfc hph hnx
  have h2 := (ha.putR 6 (.int .u8 r1.ph)).putF 5 (.bool (r1.ph != 0))
  refine ⟨rfl, mv', ⟨h2.b, h2.f, ⟨by rw [hl]; exact h.ok.room, h.ok.n1, h.ok.n2⟩, h.bf⟩, ?_, h2.c, h2.y⟩
  rw [hrc] at h2
  exact h2.r
section
variable (B rp vb rf rb : Nat) (mv : Value) (s : BS) (F : Fd) (r : Rd) (v : Int) (w : World) (h : RFeedM B w rp vb rf mv s F) (hq : Blk w rb 118 (rrdCells rf r v)) (ht : 0 ≤ r.t ∧ r.t < 16) (hlen : s.lg.length < 1000000) (hB : B ≤ w.heap.size) (hH : 0 ≤ cHead s F ∧ cHead s F ≤ cTail s F ∧ cTail s F ≤ 1000000)
include h hq ht hlen hB hH
set_option maxRecDepth 100000 in
set_option maxHeartbeats 1000000 in
theorem rrs14 (hph : r.ph = 14)  : Calls Try.prog 41 #[.pointer (some ⟨rb, 0, none⟩)] w (RRRes B rp vb rf rb mv F r (rstep s F r) (rrv s F r v) w) := by
  have he : rstep s F r = (s.load r.t (F.first + 1 : Nat), { r with l := cLag s F, ph := 15 }) := by unfold rstep;  rw [if_pos hph] 
  have hev : rrv s F r v = v := by unfold rrv; rw [if_neg (by rw [hph]; decide), if_neg (by rw [hph]; decide), if_neg (by rw [hph]; decide)]
  rw [he, hev]
  clear he hev
  have hA := AtR.start h hq
  have hn := h.hn
  have hn1 := h.ok.n1
  have hn2 := h.ok.n2
  have hroom := h.ok.room
  have f0 : w.cell? ⟨rf, 0, none⟩ = some (.pointer (some ⟨rp, 0, none⟩)) := hA.f.cell 0
  have f1 : w.cell? ⟨rf, 1, none⟩ = some (.int .i64 F.first) := hA.f.cell 1
  have f2 : w.cell? ⟨rf, 2, none⟩ = some (.int .i64 F.n) := hA.f.cell 2
  have f3 : w.cell? ⟨rf, 3, none⟩ = some (.int .u64 F.last) := hA.f.cell 3
  have f4 : w.cell? ⟨rf, 4, none⟩ = some (.bool F.pushing) := hA.f.cell 4
  have f5 : w.cell? ⟨rf, 5, none⟩ = some (.bool F.receiving) := hA.f.cell 5
  have a0 : w.cell? ⟨rb, 0, none⟩ = some (.pointer (some ⟨rf, 0, none⟩)) := hA.r.cell 0
  have a1 : w.cell? ⟨rb, 1, none⟩ = some (.int .i64 r.t) := hA.r.cell 1
  have a2 : w.cell? ⟨rb, 2, none⟩ = some (.int .u64 r.after) := hA.r.cell 2
  have a3 : w.cell? ⟨rb, 3, none⟩ = some (.int .u64 r.l) := hA.r.cell 3
  have a4 : w.cell? ⟨rb, 4, none⟩ = some (.int .u64 v) := hA.r.cell 4
  have a5 : w.cell? ⟨rb, 5, none⟩ = some (.bool r.lagged) := hA.r.cell 5
  have a6 : w.cell? ⟨rb, 6, none⟩ = some (.int .u8 r.ph) := hA.r.cell 6
  have a7 : w.cell? ⟨rb, 7, none⟩ = some (.int .i64 r.err) := hA.r.cell 7
  have gf4 := hA.f.free 4
  have gf5 := hA.f.free 5
  have ga0 := hA.r.free 0
  have ga1 := hA.r.free 1
  have ga2 := hA.r.free 2
  have ga3 := hA.r.free 3
  have ga4 := hA.r.free 4
  have ga5 := hA.r.free 5
  have ga6 := hA.r.free 6
  have ga7 := hA.r.free 7
  have hne := hA.ne
  have bp0 : (r.ph == 0) = false := by rw [beq_eq_false_iff_ne, hph]; decide
  have bp14 : (r.ph == 14) = true := by rw [beq_iff_eq]; exact hph
  have bp15 : (r.ph == 15) = false := by rw [beq_eq_false_iff_ne, hph]; decide
  have bp16 : (r.ph == 16) = false := by rw [beq_eq_false_iff_ne, hph]; decide
  have bp17 : (r.ph == 17) = false := by rw [beq_eq_false_iff_ne, hph]; decide
  have bp18 : (r.ph == 18) = false := by rw [beq_eq_false_iff_ne, hph]; decide
  have Hph := hid hph
  have Hh := hid h
  have HA := hid hA
  clear hph hA
  go_enter Try.func41, Try.ntmps41
  go_wp2_with fail
  go_quiet (fail)
  go_wp2_with fail
  obtain ⟨W0, hW0⟩ : ∃ W0, W0 = w.drewN nq := ⟨_, rfl⟩
  have hA0 := HA.out.drewN nq
  rw [← hW0] at hA0 ⊢
  have M0 := hid (show RFeedM B W0 rp vb rf mv s F from by rw [hW0]; exact Hh.out.drewN nq)
  have HW0 := hid hW0
  have hB0 : B ≤ W0.heap.size := by rw [hW0]; exact hB
  clear hW0
  clear f0 f1 f2 f3 f4 f5 a0 a1 a2 a3 a4 a5 a6 a7 gf4 gf5 ga0 ga1 ga2 ga3 ga4 ga5 ga6 ga7 hne
  have f0 : W0.cell? ⟨rf, 0, none⟩ = some (.pointer (some ⟨rp, 0, none⟩)) := hA0.f.cell 0
  have f1 : W0.cell? ⟨rf, 1, none⟩ = some (.int .i64 F.first) := hA0.f.cell 1
  have f2 : W0.cell? ⟨rf, 2, none⟩ = some (.int .i64 F.n) := hA0.f.cell 2
  have f3 : W0.cell? ⟨rf, 3, none⟩ = some (.int .u64 F.last) := hA0.f.cell 3
  have f4 : W0.cell? ⟨rf, 4, none⟩ = some (.bool F.pushing) := hA0.f.cell 4
  have f5 : W0.cell? ⟨rf, 5, none⟩ = some (.bool F.receiving) := hA0.f.cell 5
  have a0 : W0.cell? ⟨rb, 0, none⟩ = some (.pointer (some ⟨rf, 0, none⟩)) := hA0.r.cell 0
  have a1 : W0.cell? ⟨rb, 1, none⟩ = some (.int .i64 r.t) := hA0.r.cell 1
  have a2 : W0.cell? ⟨rb, 2, none⟩ = some (.int .u64 r.after) := hA0.r.cell 2
  have a3 : W0.cell? ⟨rb, 3, none⟩ = some (.int .u64 r.l) := hA0.r.cell 3
  have a4 : W0.cell? ⟨rb, 4, none⟩ = some (.int .u64 v) := hA0.r.cell 4
  have a5 : W0.cell? ⟨rb, 5, none⟩ = some (.bool r.lagged) := hA0.r.cell 5
  have a6 : W0.cell? ⟨rb, 6, none⟩ = some (.int .u8 r.ph) := hA0.r.cell 6
  have a7 : W0.cell? ⟨rb, 7, none⟩ = some (.int .i64 r.err) := hA0.r.cell 7
  have gf4 := hA0.f.free 4
  have gf5 := hA0.f.free 5
  have ga0 := hA0.r.free 0
  have ga1 := hA0.r.free 1
  have ga2 := hA0.r.free 2
  have ga3 := hA0.r.free 3
  have ga4 := hA0.r.free 4
  have ga5 := hA0.r.free 5
  have ga6 := hA0.r.free 6
  have ga7 := hA0.r.free 7
  have hne := hA0.ne
  have HA0 := hid hA0
  clear hA0
  refine Mix.wp_region_mix (fun _ => True) (fun i => ([1, 0, 0, 0, 0, 0, 0, 0, 0, 0, 0, 0, 0, 0, 2, 0, 0, 1, 0, 0, 2] : List Nat).getD i 0) [0, 1, 2, 3, 4, 5, 6, 7, 8, 9, 10, 11, 12, 13, 14, 15, 16, 17, 18, 19, 20] (by kernel_rfl) (by kernel_rfl) ?_
  repeat (first | (refine Mix.mix_q (by simp only [List.getElem?_toArray, List.getElem?_cons_zero, List.getElem?_cons_succ]; exact rfl) rfl ?_; go_big_quiet_step (fail); refine wpQuiet_nil ?_) | (refine Mix.mix_p (by simp only [List.getElem?_toArray, List.getElem?_cons_zero, List.getElem?_cons_succ]; exact rfl) rfl rfl ?_; go_big_quiet_step (fail); refine wpQuiet_nil ?_))
  refine Mix.mix_e (by simp only [List.getElem?_toArray, List.getElem?_cons_zero, List.getElem?_cons_succ]; exact rfl) rfl fun W hW => ?_
  obtain ⟨n1, rfl⟩ := hW
  go_wp2_with fail
  refine (rload_ok B rp vb mv s r.t (F.first + 1 : Nat) _ (rbank_drew HA0.out.b n1) hlen hB0 ⟨ht.1, ht.2, by omega, by omega⟩).mono ?_
  rintro e w1 ⟨rfl, hs1⟩
  obtain ⟨mv', hA1⟩ := (HA0.out.drewN n1).call hs1
  rw [Int.toNat_natCast]
  clear f0 f1 f2 f3 f4 f5 a0 a1 a2 a3 a4 a5 a6 a7 gf4 gf5 ga0 ga1 ga2 ga3 ga4 ga5 ga6 ga7 hne
  have f0 : w1.cell? ⟨rf, 0, none⟩ = some (.pointer (some ⟨rp, 0, none⟩)) := hA1.f.cell 0
  have f1 : w1.cell? ⟨rf, 1, none⟩ = some (.int .i64 F.first) := hA1.f.cell 1
  have f2 : w1.cell? ⟨rf, 2, none⟩ = some (.int .i64 F.n) := hA1.f.cell 2
  have f3 : w1.cell? ⟨rf, 3, none⟩ = some (.int .u64 F.last) := hA1.f.cell 3
  have f4 : w1.cell? ⟨rf, 4, none⟩ = some (.bool F.pushing) := hA1.f.cell 4
  have f5 : w1.cell? ⟨rf, 5, none⟩ = some (.bool F.receiving) := hA1.f.cell 5
  have a0 : w1.cell? ⟨rb, 0, none⟩ = some (.pointer (some ⟨rf, 0, none⟩)) := hA1.r.cell 0
  have a1 : w1.cell? ⟨rb, 1, none⟩ = some (.int .i64 r.t) := hA1.r.cell 1
  have a2 : w1.cell? ⟨rb, 2, none⟩ = some (.int .u64 r.after) := hA1.r.cell 2
  have a3 : w1.cell? ⟨rb, 3, none⟩ = some (.int .u64 r.l) := hA1.r.cell 3
  have a4 : w1.cell? ⟨rb, 4, none⟩ = some (.int .u64 v) := hA1.r.cell 4
  have a5 : w1.cell? ⟨rb, 5, none⟩ = some (.bool r.lagged) := hA1.r.cell 5
  have a6 : w1.cell? ⟨rb, 6, none⟩ = some (.int .u8 r.ph) := hA1.r.cell 6
  have a7 : w1.cell? ⟨rb, 7, none⟩ = some (.int .i64 r.err) := hA1.r.cell 7
  have gf4 := hA1.f.free 4
  have gf5 := hA1.f.free 5
  have ga0 := hA1.r.free 0
  have ga1 := hA1.r.free 1
  have ga2 := hA1.r.free 2
  have ga3 := hA1.r.free 3
  have ga4 := hA1.r.free 4
  have ga5 := hA1.r.free 5
  have ga6 := hA1.r.free 6
  have ga7 := hA1.r.free 7
  have hne := hA1.ne
  have HA1 := hid hA1
  have Hs1 := hid hs1
  clear hA1 hs1
  go_wp2_with fail
  repeat (first | (refine Mix.mix_q (by simp only [List.getElem?_toArray, List.getElem?_cons_zero, List.getElem?_cons_succ]; exact rfl) rfl ?_; go_big_quiet_step (fail); refine wpQuiet_nil ?_) | (refine Mix.mix_p (by simp only [List.getElem?_toArray, List.getElem?_cons_zero, List.getElem?_cons_succ]; exact rfl) rfl rfl ?_; go_big_quiet_step (fail); refine wpQuiet_nil ?_))
  refine Mix.mix_e (by simp only [List.getElem?_toArray, List.getElem?_cons_zero, List.getElem?_cons_succ]; exact rfl) rfl fun W hW => ?_
  obtain ⟨n2, rfl⟩ := hW
  go_wp2_with fail
  refine Mix.mix_world fun w2 hw2 => ?_
  have hA2 := (HA1.out.drewN n2).putR 3 (.int .u64 (lk s.vs (F.first + 1)))
  rw [← hw2] at hA2
  clear f0 f1 f2 f3 f4 f5 a0 a1 a2 a3 a4 a5 a6 a7 gf4 gf5 ga0 ga1 ga2 ga3 ga4 ga5 ga6 ga7 hne
  clear hw2
  have f0 : w2.cell? ⟨rf, 0, none⟩ = some (.pointer (some ⟨rp, 0, none⟩)) := hA2.f.cell 0
  have f1 : w2.cell? ⟨rf, 1, none⟩ = some (.int .i64 F.first) := hA2.f.cell 1
  have f2 : w2.cell? ⟨rf, 2, none⟩ = some (.int .i64 F.n) := hA2.f.cell 2
  have f3 : w2.cell? ⟨rf, 3, none⟩ = some (.int .u64 F.last) := hA2.f.cell 3
  have f4 : w2.cell? ⟨rf, 4, none⟩ = some (.bool F.pushing) := hA2.f.cell 4
  have f5 : w2.cell? ⟨rf, 5, none⟩ = some (.bool F.receiving) := hA2.f.cell 5
  have a0 : w2.cell? ⟨rb, 0, none⟩ = some (.pointer (some ⟨rf, 0, none⟩)) := hA2.r.cell 0
  have a1 : w2.cell? ⟨rb, 1, none⟩ = some (.int .i64 r.t) := hA2.r.cell 1
  have a2 : w2.cell? ⟨rb, 2, none⟩ = some (.int .u64 r.after) := hA2.r.cell 2
  have a3 : w2.cell? ⟨rb, 3, none⟩ = some (.int .u64 (lk s.vs (F.first + 1))) := hA2.r.cell 3
  have a4 : w2.cell? ⟨rb, 4, none⟩ = some (.int .u64 v) := hA2.r.cell 4
  have a5 : w2.cell? ⟨rb, 5, none⟩ = some (.bool r.lagged) := hA2.r.cell 5
  have a6 : w2.cell? ⟨rb, 6, none⟩ = some (.int .u8 r.ph) := hA2.r.cell 6
  have a7 : w2.cell? ⟨rb, 7, none⟩ = some (.int .i64 r.err) := hA2.r.cell 7
  have gf4 := hA2.f.free 4
  have gf5 := hA2.f.free 5
  have ga0 := hA2.r.free 0
  have ga1 := hA2.r.free 1
  have ga2 := hA2.r.free 2
  have ga3 := hA2.r.free 3
  have ga4 := hA2.r.free 4
  have ga5 := hA2.r.free 5
  have ga6 := hA2.r.free 6
  have ga7 := hA2.r.free 7
  have hne := hA2.ne
  have HA2 := hid hA2
  clear hA2
  intro n3
  go_wp2_with fail
  go_ret2
  exact rrres_close 15 Hh.out (HA2.out.drewN n3) rfl rfl rfl rfl rfl (by rfl)
set_option maxRecDepth 100000 in
set_option maxHeartbeats 1000000 in
theorem rrs15a (hph : r.ph = 15) (hc : cTail s F ≠ cHead s F) : Calls Try.prog 41 #[.pointer (some ⟨rb, 0, none⟩)] w (RRRes B rp vb rf rb mv F r (rstep s F r) (rrv s F r v) w) := by
  have he : rstep s F r = (s.load r.t (F.first + 3 : Nat), { r with ph := 16 }) := by unfold rstep; rw [if_neg (by rw [hph]; decide)]; rw [if_pos hph]; rw [if_neg hc]
  have hev : rrv s F r v = v := by unfold rrv; rw [if_pos hph, if_neg hc]
  rw [he, hev]
  clear he hev
  have hA := AtR.start h hq
  have hn := h.hn
  have hn1 := h.ok.n1
  have hn2 := h.ok.n2
  have hroom := h.ok.room
  have f0 : w.cell? ⟨rf, 0, none⟩ = some (.pointer (some ⟨rp, 0, none⟩)) := hA.f.cell 0
  have f1 : w.cell? ⟨rf, 1, none⟩ = some (.int .i64 F.first) := hA.f.cell 1
  have f2 : w.cell? ⟨rf, 2, none⟩ = some (.int .i64 F.n) := hA.f.cell 2
  have f3 : w.cell? ⟨rf, 3, none⟩ = some (.int .u64 F.last) := hA.f.cell 3
  have f4 : w.cell? ⟨rf, 4, none⟩ = some (.bool F.pushing) := hA.f.cell 4
  have f5 : w.cell? ⟨rf, 5, none⟩ = some (.bool F.receiving) := hA.f.cell 5
  have a0 : w.cell? ⟨rb, 0, none⟩ = some (.pointer (some ⟨rf, 0, none⟩)) := hA.r.cell 0
  have a1 : w.cell? ⟨rb, 1, none⟩ = some (.int .i64 r.t) := hA.r.cell 1
  have a2 : w.cell? ⟨rb, 2, none⟩ = some (.int .u64 r.after) := hA.r.cell 2
  have a3 : w.cell? ⟨rb, 3, none⟩ = some (.int .u64 r.l) := hA.r.cell 3
  have a4 : w.cell? ⟨rb, 4, none⟩ = some (.int .u64 v) := hA.r.cell 4
  have a5 : w.cell? ⟨rb, 5, none⟩ = some (.bool r.lagged) := hA.r.cell 5
  have a6 : w.cell? ⟨rb, 6, none⟩ = some (.int .u8 r.ph) := hA.r.cell 6
  have a7 : w.cell? ⟨rb, 7, none⟩ = some (.int .i64 r.err) := hA.r.cell 7
  have gf4 := hA.f.free 4
  have gf5 := hA.f.free 5
  have ga0 := hA.r.free 0
  have ga1 := hA.r.free 1
  have ga2 := hA.r.free 2
  have ga3 := hA.r.free 3
  have ga4 := hA.r.free 4
  have ga5 := hA.r.free 5
  have ga6 := hA.r.free 6
  have ga7 := hA.r.free 7
  have hne := hA.ne
  have bp0 : (r.ph == 0) = false := by rw [beq_eq_false_iff_ne, hph]; decide
  have bp14 : (r.ph == 14) = false := by rw [beq_eq_false_iff_ne, hph]; decide
  have bp15 : (r.ph == 15) = true := by rw [beq_iff_eq]; exact hph
  have bp16 : (r.ph == 16) = false := by rw [beq_eq_false_iff_ne, hph]; decide
  have bp17 : (r.ph == 17) = false := by rw [beq_eq_false_iff_ne, hph]; decide
  have bp18 : (r.ph == 18) = false := by rw [beq_eq_false_iff_ne, hph]; decide
  obtain ⟨hd, hhd⟩ : ∃ y, y = cHead s F := ⟨_, rfl⟩
  obtain ⟨tl, htl⟩ : ∃ y, y = cTail s F := ⟨_, rfl⟩
  have bc : (tl != hd) = true := by rw [bne_iff_ne, hhd, htl]; exact hc
  have HHD := hid hhd
  have HTL := hid htl
  clear hc hhd htl hH
  have Hph := hid hph
  have Hh := hid h
  have HA := hid hA
  clear hph hA
  go_enter Try.func41, Try.ntmps41
  go_wp2_with fail
  go_quiet (fail)
  go_wp2_with fail
  obtain ⟨W0, hW0⟩ : ∃ W0, W0 = w.drewN nq := ⟨_, rfl⟩
  have hA0 := HA.out.drewN nq
  rw [← hW0] at hA0 ⊢
  have M0 := hid (show RFeedM B W0 rp vb rf mv s F from by rw [hW0]; exact Hh.out.drewN nq)
  have HW0 := hid hW0
  have hB0 : B ≤ W0.heap.size := by rw [hW0]; exact hB
  clear hW0
  clear f0 f1 f2 f3 f4 f5 a0 a1 a2 a3 a4 a5 a6 a7 gf4 gf5 ga0 ga1 ga2 ga3 ga4 ga5 ga6 ga7 hne
  have f0 : W0.cell? ⟨rf, 0, none⟩ = some (.pointer (some ⟨rp, 0, none⟩)) := hA0.f.cell 0
  have f1 : W0.cell? ⟨rf, 1, none⟩ = some (.int .i64 F.first) := hA0.f.cell 1
  have f2 : W0.cell? ⟨rf, 2, none⟩ = some (.int .i64 F.n) := hA0.f.cell 2
  have f3 : W0.cell? ⟨rf, 3, none⟩ = some (.int .u64 F.last) := hA0.f.cell 3
  have f4 : W0.cell? ⟨rf, 4, none⟩ = some (.bool F.pushing) := hA0.f.cell 4
  have f5 : W0.cell? ⟨rf, 5, none⟩ = some (.bool F.receiving) := hA0.f.cell 5
  have a0 : W0.cell? ⟨rb, 0, none⟩ = some (.pointer (some ⟨rf, 0, none⟩)) := hA0.r.cell 0
  have a1 : W0.cell? ⟨rb, 1, none⟩ = some (.int .i64 r.t) := hA0.r.cell 1
  have a2 : W0.cell? ⟨rb, 2, none⟩ = some (.int .u64 r.after) := hA0.r.cell 2
  have a3 : W0.cell? ⟨rb, 3, none⟩ = some (.int .u64 r.l) := hA0.r.cell 3
  have a4 : W0.cell? ⟨rb, 4, none⟩ = some (.int .u64 v) := hA0.r.cell 4
  have a5 : W0.cell? ⟨rb, 5, none⟩ = some (.bool r.lagged) := hA0.r.cell 5
  have a6 : W0.cell? ⟨rb, 6, none⟩ = some (.int .u8 r.ph) := hA0.r.cell 6
  have a7 : W0.cell? ⟨rb, 7, none⟩ = some (.int .i64 r.err) := hA0.r.cell 7
  have gf4 := hA0.f.free 4
  have gf5 := hA0.f.free 5
  have ga0 := hA0.r.free 0
  have ga1 := hA0.r.free 1
  have ga2 := hA0.r.free 2
  have ga3 := hA0.r.free 3
  have ga4 := hA0.r.free 4
  have ga5 := hA0.r.free 5
  have ga6 := hA0.r.free 6
  have ga7 := hA0.r.free 7
  have hne := hA0.ne
  have HA0 := hid hA0
  clear hA0
  refine Mix.wp_region_mix (fun _ => True) (fun i => ([0, 0, 0, 0, 0, 0, 0, 0, 0, 0, 0, 0, 0, 2, 0, 0, 0, 0, 0] : List Nat).getD i 0) [0, 1, 2, 3, 4, 5, 6, 7, 8, 9, 10, 11, 12, 13, 14, 15, 16, 17, 18] (by kernel_rfl) (by kernel_rfl) ?_
  repeat (first | (refine Mix.mix_q (by simp only [List.getElem?_toArray, List.getElem?_cons_zero, List.getElem?_cons_succ]; exact rfl) rfl ?_; go_big_quiet_step (fail); refine wpQuiet_nil ?_) | (refine Mix.mix_p (by simp only [List.getElem?_toArray, List.getElem?_cons_zero, List.getElem?_cons_succ]; exact rfl) rfl rfl ?_; go_big_quiet_step (fail); refine wpQuiet_nil ?_))
  refine Mix.mix_e (by simp only [List.getElem?_toArray, List.getElem?_cons_zero, List.getElem?_cons_succ]; exact rfl) rfl fun W hW => ?_
  obtain ⟨n1, rfl⟩ := hW
  go_wp2_with fail
  refine (rload_ok B rp vb mv s r.t (F.first + 3 : Nat) _ (rbank_drew HA0.out.b n1) hlen hB0 ⟨ht.1, ht.2, by omega, by omega⟩).mono ?_
  rintro e w1 ⟨rfl, hs1⟩
  obtain ⟨mv', hA1⟩ := (HA0.out.drewN n1).call hs1
  rw [Int.toNat_natCast]
  clear f0 f1 f2 f3 f4 f5 a0 a1 a2 a3 a4 a5 a6 a7 gf4 gf5 ga0 ga1 ga2 ga3 ga4 ga5 ga6 ga7 hne
  have f0 : w1.cell? ⟨rf, 0, none⟩ = some (.pointer (some ⟨rp, 0, none⟩)) := hA1.f.cell 0
  have f1 : w1.cell? ⟨rf, 1, none⟩ = some (.int .i64 F.first) := hA1.f.cell 1
  have f2 : w1.cell? ⟨rf, 2, none⟩ = some (.int .i64 F.n) := hA1.f.cell 2
  have f3 : w1.cell? ⟨rf, 3, none⟩ = some (.int .u64 F.last) := hA1.f.cell 3
  have f4 : w1.cell? ⟨rf, 4, none⟩ = some (.bool F.pushing) := hA1.f.cell 4
  have f5 : w1.cell? ⟨rf, 5, none⟩ = some (.bool F.receiving) := hA1.f.cell 5
  have a0 : w1.cell? ⟨rb, 0, none⟩ = some (.pointer (some ⟨rf, 0, none⟩)) := hA1.r.cell 0
  have a1 : w1.cell? ⟨rb, 1, none⟩ = some (.int .i64 r.t) := hA1.r.cell 1
  have a2 : w1.cell? ⟨rb, 2, none⟩ = some (.int .u64 r.after) := hA1.r.cell 2
  have a3 : w1.cell? ⟨rb, 3, none⟩ = some (.int .u64 r.l) := hA1.r.cell 3
  have a4 : w1.cell? ⟨rb, 4, none⟩ = some (.int .u64 v) := hA1.r.cell 4
  have a5 : w1.cell? ⟨rb, 5, none⟩ = some (.bool r.lagged) := hA1.r.cell 5
  have a6 : w1.cell? ⟨rb, 6, none⟩ = some (.int .u8 r.ph) := hA1.r.cell 6
  have a7 : w1.cell? ⟨rb, 7, none⟩ = some (.int .i64 r.err) := hA1.r.cell 7
  have gf4 := hA1.f.free 4
  have gf5 := hA1.f.free 5
  have ga0 := hA1.r.free 0
  have ga1 := hA1.r.free 1
  have ga2 := hA1.r.free 2
  have ga3 := hA1.r.free 3
  have ga4 := hA1.r.free 4
  have ga5 := hA1.r.free 5
  have ga6 := hA1.r.free 6
  have ga7 := hA1.r.free 7
  have hne := hA1.ne
  have HA1 := hid hA1
  have Hs1 := hid hs1
  clear hA1 hs1
  go_wp2_with fail
  repeat (first | (refine Mix.mix_q (by simp only [List.getElem?_toArray, List.getElem?_cons_zero, List.getElem?_cons_succ]; exact rfl) rfl ?_; go_big_quiet_step (fail); refine wpQuiet_nil ?_) | (refine Mix.mix_p (by simp only [List.getElem?_toArray, List.getElem?_cons_zero, List.getElem?_cons_succ]; exact rfl) rfl rfl ?_; go_big_quiet_step (fail); refine wpQuiet_nil ?_))
  intro n2
  go_wp2_with fail
  obtain ⟨W1, hW1⟩ : ∃ W1, W1 = w1.drewN n2 := ⟨_, rfl⟩
  have M1 := hid (show RFeedM B W1 rp vb rf mv' (s.load r.t (F.first + 3 : Nat)) F from by rw [hW1]; exact ⟨(HA1.out.drewN n2).b, (HA1.out.drewN n2).f, ⟨Hh.out.ok.room, Hh.out.ok.n1, Hh.out.ok.n2⟩, Hh.out.bf⟩)
  have hA2 := HA1.out.drewN n2
  rw [← hW1] at hA2
  have hdx : lk s.vs (F.first + 3) = tl := HTL.out.symm
  try rw [← hW1]
  try rw [hdx]
  clear hW1 hdx
  refine (rhead_any B rp vb rf mv' (s.load r.t (F.first + 3 : Nat)) F W1 M1.out).mono ?_
  rintro e w2 ⟨rfl, n3, rfl⟩
  rw [show cHead (s.load r.t (F.first + 3 : Nat)) F = hd from HHD.out.symm]
  have hA3 := hA2.drewN n3
  clear f0 f1 f2 f3 f4 f5 a0 a1 a2 a3 a4 a5 a6 a7 gf4 gf5 ga0 ga1 ga2 ga3 ga4 ga5 ga6 ga7 hne
  have f0 : (W1.drewN n3).cell? ⟨rf, 0, none⟩ = some (.pointer (some ⟨rp, 0, none⟩)) := hA3.f.cell 0
  have f1 : (W1.drewN n3).cell? ⟨rf, 1, none⟩ = some (.int .i64 F.first) := hA3.f.cell 1
  have f2 : (W1.drewN n3).cell? ⟨rf, 2, none⟩ = some (.int .i64 F.n) := hA3.f.cell 2
  have f3 : (W1.drewN n3).cell? ⟨rf, 3, none⟩ = some (.int .u64 F.last) := hA3.f.cell 3
  have f4 : (W1.drewN n3).cell? ⟨rf, 4, none⟩ = some (.bool F.pushing) := hA3.f.cell 4
  have f5 : (W1.drewN n3).cell? ⟨rf, 5, none⟩ = some (.bool F.receiving) := hA3.f.cell 5
  have a0 : (W1.drewN n3).cell? ⟨rb, 0, none⟩ = some (.pointer (some ⟨rf, 0, none⟩)) := hA3.r.cell 0
  have a1 : (W1.drewN n3).cell? ⟨rb, 1, none⟩ = some (.int .i64 r.t) := hA3.r.cell 1
  have a2 : (W1.drewN n3).cell? ⟨rb, 2, none⟩ = some (.int .u64 r.after) := hA3.r.cell 2
  have a3 : (W1.drewN n3).cell? ⟨rb, 3, none⟩ = some (.int .u64 r.l) := hA3.r.cell 3
  have a4 : (W1.drewN n3).cell? ⟨rb, 4, none⟩ = some (.int .u64 v) := hA3.r.cell 4
  have a5 : (W1.drewN n3).cell? ⟨rb, 5, none⟩ = some (.bool r.lagged) := hA3.r.cell 5
  have a6 : (W1.drewN n3).cell? ⟨rb, 6, none⟩ = some (.int .u8 r.ph) := hA3.r.cell 6
  have a7 : (W1.drewN n3).cell? ⟨rb, 7, none⟩ = some (.int .i64 r.err) := hA3.r.cell 7
  have gf4 := hA3.f.free 4
  have gf5 := hA3.f.free 5
  have ga0 := hA3.r.free 0
  have ga1 := hA3.r.free 1
  have ga2 := hA3.r.free 2
  have ga3 := hA3.r.free 3
  have ga4 := hA3.r.free 4
  have ga5 := hA3.r.free 5
  have ga6 := hA3.r.free 6
  have ga7 := hA3.r.free 7
  have hne := hA3.ne
  have HA3 := hid hA3
  clear hA3 hA2
  go_wp2_with fail
  go_ret2
  exact rrres_close 16 Hh.out (HA3.out) rfl rfl rfl rfl rfl (by rfl)
set_option maxRecDepth 100000 in
set_option maxHeartbeats 1000000 in
theorem rrs15b (hph : r.ph = 15) (hc : cTail s F = cHead s F) (hc2 : r.l ≠ 0) : Calls Try.prog 41 #[.pointer (some ⟨rb, 0, none⟩)] w (RRRes B rp vb rf rb mv F r (rstep s F r) (rrv s F r v) w) := by
  have he : rstep s F r = (s.load r.t (F.first + 3 : Nat), { r with ph := 18 }) := by unfold rstep; rw [if_neg (by rw [hph]; decide)]; rw [if_pos hph]; rw [if_pos hc, if_neg hc2]
  have hev : rrv s F r v = v := by unfold rrv; rw [if_pos hph, if_pos hc, if_neg hc2]
  rw [he, hev]
  clear he hev
  have hA := AtR.start h hq
  have hn := h.hn
  have hn1 := h.ok.n1
  have hn2 := h.ok.n2
  have hroom := h.ok.room
  have f0 : w.cell? ⟨rf, 0, none⟩ = some (.pointer (some ⟨rp, 0, none⟩)) := hA.f.cell 0
  have f1 : w.cell? ⟨rf, 1, none⟩ = some (.int .i64 F.first) := hA.f.cell 1
  have f2 : w.cell? ⟨rf, 2, none⟩ = some (.int .i64 F.n) := hA.f.cell 2
  have f3 : w.cell? ⟨rf, 3, none⟩ = some (.int .u64 F.last) := hA.f.cell 3
  have f4 : w.cell? ⟨rf, 4, none⟩ = some (.bool F.pushing) := hA.f.cell 4
  have f5 : w.cell? ⟨rf, 5, none⟩ = some (.bool F.receiving) := hA.f.cell 5
  have a0 : w.cell? ⟨rb, 0, none⟩ = some (.pointer (some ⟨rf, 0, none⟩)) := hA.r.cell 0
  have a1 : w.cell? ⟨rb, 1, none⟩ = some (.int .i64 r.t) := hA.r.cell 1
  have a2 : w.cell? ⟨rb, 2, none⟩ = some (.int .u64 r.after) := hA.r.cell 2
  have a3 : w.cell? ⟨rb, 3, none⟩ = some (.int .u64 r.l) := hA.r.cell 3
  have a4 : w.cell? ⟨rb, 4, none⟩ = some (.int .u64 v) := hA.r.cell 4
  have a5 : w.cell? ⟨rb, 5, none⟩ = some (.bool r.lagged) := hA.r.cell 5
  have a6 : w.cell? ⟨rb, 6, none⟩ = some (.int .u8 r.ph) := hA.r.cell 6
  have a7 : w.cell? ⟨rb, 7, none⟩ = some (.int .i64 r.err) := hA.r.cell 7
  have gf4 := hA.f.free 4
  have gf5 := hA.f.free 5
  have ga0 := hA.r.free 0
  have ga1 := hA.r.free 1
  have ga2 := hA.r.free 2
  have ga3 := hA.r.free 3
  have ga4 := hA.r.free 4
  have ga5 := hA.r.free 5
  have ga6 := hA.r.free 6
  have ga7 := hA.r.free 7
  have hne := hA.ne
  have bp0 : (r.ph == 0) = false := by rw [beq_eq_false_iff_ne, hph]; decide
  have bp14 : (r.ph == 14) = false := by rw [beq_eq_false_iff_ne, hph]; decide
  have bp15 : (r.ph == 15) = true := by rw [beq_iff_eq]; exact hph
  have bp16 : (r.ph == 16) = false := by rw [beq_eq_false_iff_ne, hph]; decide
  have bp17 : (r.ph == 17) = false := by rw [beq_eq_false_iff_ne, hph]; decide
  have bp18 : (r.ph == 18) = false := by rw [beq_eq_false_iff_ne, hph]; decide
  obtain ⟨hd, hhd⟩ : ∃ y, y = cHead s F := ⟨_, rfl⟩
  obtain ⟨tl, htl⟩ : ∃ y, y = cTail s F := ⟨_, rfl⟩
  have bc : (tl != hd) = false := by rw [bne_eq_false_iff_eq, hhd, htl]; exact hc
  have bl : (r.l != 0) = true := by rw [bne_iff_ne]; exact hc2
  clear hc2
  have HHD := hid hhd
  have HTL := hid htl
  clear hc hhd htl hH
  have Hph := hid hph
  have Hh := hid h
  have HA := hid hA
  clear hph hA
  go_enter Try.func41, Try.ntmps41
  go_wp2_with fail
  go_quiet (fail)
  go_wp2_with fail
  obtain ⟨W0, hW0⟩ : ∃ W0, W0 = w.drewN nq := ⟨_, rfl⟩
  have hA0 := HA.out.drewN nq
  rw [← hW0] at hA0 ⊢
  have M0 := hid (show RFeedM B W0 rp vb rf mv s F from by rw [hW0]; exact Hh.out.drewN nq)
  have HW0 := hid hW0
  have hB0 : B ≤ W0.heap.size := by rw [hW0]; exact hB
  clear hW0
  clear f0 f1 f2 f3 f4 f5 a0 a1 a2 a3 a4 a5 a6 a7 gf4 gf5 ga0 ga1 ga2 ga3 ga4 ga5 ga6 ga7 hne
  have f0 : W0.cell? ⟨rf, 0, none⟩ = some (.pointer (some ⟨rp, 0, none⟩)) := hA0.f.cell 0
  have f1 : W0.cell? ⟨rf, 1, none⟩ = some (.int .i64 F.first) := hA0.f.cell 1
  have f2 : W0.cell? ⟨rf, 2, none⟩ = some (.int .i64 F.n) := hA0.f.cell 2
  have f3 : W0.cell? ⟨rf, 3, none⟩ = some (.int .u64 F.last) := hA0.f.cell 3
  have f4 : W0.cell? ⟨rf, 4, none⟩ = some (.bool F.pushing) := hA0.f.cell 4
  have f5 : W0.cell? ⟨rf, 5, none⟩ = some (.bool F.receiving) := hA0.f.cell 5
  have a0 : W0.cell? ⟨rb, 0, none⟩ = some (.pointer (some ⟨rf, 0, none⟩)) := hA0.r.cell 0
  have a1 : W0.cell? ⟨rb, 1, none⟩ = some (.int .i64 r.t) := hA0.r.cell 1
  have a2 : W0.cell? ⟨rb, 2, none⟩ = some (.int .u64 r.after) := hA0.r.cell 2
  have a3 : W0.cell? ⟨rb, 3, none⟩ = some (.int .u64 r.l) := hA0.r.cell 3
  have a4 : W0.cell? ⟨rb, 4, none⟩ = some (.int .u64 v) := hA0.r.cell 4
  have a5 : W0.cell? ⟨rb, 5, none⟩ = some (.bool r.lagged) := hA0.r.cell 5
  have a6 : W0.cell? ⟨rb, 6, none⟩ = some (.int .u8 r.ph) := hA0.r.cell 6
  have a7 : W0.cell? ⟨rb, 7, none⟩ = some (.int .i64 r.err) := hA0.r.cell 7
  have gf4 := hA0.f.free 4
  have gf5 := hA0.f.free 5
  have ga0 := hA0.r.free 0
  have ga1 := hA0.r.free 1
  have ga2 := hA0.r.free 2
  have ga3 := hA0.r.free 3
  have ga4 := hA0.r.free 4
  have ga5 := hA0.r.free 5
  have ga6 := hA0.r.free 6
  have ga7 := hA0.r.free 7
  have hne := hA0.ne
  have HA0 := hid hA0
  clear hA0
  refine Mix.wp_region_mix (fun _ => True) (fun i => ([0, 0, 0, 0, 0, 0, 0, 0, 0, 0, 0, 0, 0, 2, 0, 0, 0, 0, 0] : List Nat).getD i 0) [0, 1, 2, 3, 4, 5, 6, 7, 8, 9, 10, 11, 12, 13, 14, 15, 16, 17, 18] (by kernel_rfl) (by kernel_rfl) ?_
  repeat (first | (refine Mix.mix_q (by simp only [List.getElem?_toArray, List.getElem?_cons_zero, List.getElem?_cons_succ]; exact rfl) rfl ?_; go_big_quiet_step (fail); refine wpQuiet_nil ?_) | (refine Mix.mix_p (by simp only [List.getElem?_toArray, List.getElem?_cons_zero, List.getElem?_cons_succ]; exact rfl) rfl rfl ?_; go_big_quiet_step (fail); refine wpQuiet_nil ?_))
  refine Mix.mix_e (by simp only [List.getElem?_toArray, List.getElem?_cons_zero, List.getElem?_cons_succ]; exact rfl) rfl fun W hW => ?_
  obtain ⟨n1, rfl⟩ := hW
  go_wp2_with fail
  refine (rload_ok B rp vb mv s r.t (F.first + 3 : Nat) _ (rbank_drew HA0.out.b n1) hlen hB0 ⟨ht.1, ht.2, by omega, by omega⟩).mono ?_
  rintro e w1 ⟨rfl, hs1⟩
  obtain ⟨mv', hA1⟩ := (HA0.out.drewN n1).call hs1
  rw [Int.toNat_natCast]
  clear f0 f1 f2 f3 f4 f5 a0 a1 a2 a3 a4 a5 a6 a7 gf4 gf5 ga0 ga1 ga2 ga3 ga4 ga5 ga6 ga7 hne
  have f0 : w1.cell? ⟨rf, 0, none⟩ = some (.pointer (some ⟨rp, 0, none⟩)) := hA1.f.cell 0
  have f1 : w1.cell? ⟨rf, 1, none⟩ = some (.int .i64 F.first) := hA1.f.cell 1
  have f2 : w1.cell? ⟨rf, 2, none⟩ = some (.int .i64 F.n) := hA1.f.cell 2
  have f3 : w1.cell? ⟨rf, 3, none⟩ = some (.int .u64 F.last) := hA1.f.cell 3
  have f4 : w1.cell? ⟨rf, 4, none⟩ = some (.bool F.pushing) := hA1.f.cell 4
  have f5 : w1.cell? ⟨rf, 5, none⟩ = some (.bool F.receiving) := hA1.f.cell 5
  have a0 : w1.cell? ⟨rb, 0, none⟩ = some (.pointer (some ⟨rf, 0, none⟩)) := hA1.r.cell 0
  have a1 : w1.cell? ⟨rb, 1, none⟩ = some (.int .i64 r.t) := hA1.r.cell 1
  have a2 : w1.cell? ⟨rb, 2, none⟩ = some (.int .u64 r.after) := hA1.r.cell 2
  have a3 : w1.cell? ⟨rb, 3, none⟩ = some (.int .u64 r.l) := hA1.r.cell 3
  have a4 : w1.cell? ⟨rb, 4, none⟩ = some (.int .u64 v) := hA1.r.cell 4
  have a5 : w1.cell? ⟨rb, 5, none⟩ = some (.bool r.lagged) := hA1.r.cell 5
  have a6 : w1.cell? ⟨rb, 6, none⟩ = some (.int .u8 r.ph) := hA1.r.cell 6
  have a7 : w1.cell? ⟨rb, 7, none⟩ = some (.int .i64 r.err) := hA1.r.cell 7
  have gf4 := hA1.f.free 4
  have gf5 := hA1.f.free 5
  have ga0 := hA1.r.free 0
  have ga1 := hA1.r.free 1
  have ga2 := hA1.r.free 2
  have ga3 := hA1.r.free 3
  have ga4 := hA1.r.free 4
  have ga5 := hA1.r.free 5
  have ga6 := hA1.r.free 6
  have ga7 := hA1.r.free 7
  have hne := hA1.ne
  have HA1 := hid hA1
  have Hs1 := hid hs1
  clear hA1 hs1
  go_wp2_with fail
  repeat (first | (refine Mix.mix_q (by simp only [List.getElem?_toArray, List.getElem?_cons_zero, List.getElem?_cons_succ]; exact rfl) rfl ?_; go_big_quiet_step (fail); refine wpQuiet_nil ?_) | (refine Mix.mix_p (by simp only [List.getElem?_toArray, List.getElem?_cons_zero, List.getElem?_cons_succ]; exact rfl) rfl rfl ?_; go_big_quiet_step (fail); refine wpQuiet_nil ?_))
  intro n2
  go_wp2_with fail
  obtain ⟨W1, hW1⟩ : ∃ W1, W1 = w1.drewN n2 := ⟨_, rfl⟩
  have M1 := hid (show RFeedM B W1 rp vb rf mv' (s.load r.t (F.first + 3 : Nat)) F from by rw [hW1]; exact ⟨(HA1.out.drewN n2).b, (HA1.out.drewN n2).f, ⟨Hh.out.ok.room, Hh.out.ok.n1, Hh.out.ok.n2⟩, Hh.out.bf⟩)
  have hA2 := HA1.out.drewN n2
  rw [← hW1] at hA2
  have hdx : lk s.vs (F.first + 3) = tl := HTL.out.symm
  try rw [← hW1]
  try rw [hdx]
  clear hW1 hdx
  refine (rhead_any B rp vb rf mv' (s.load r.t (F.first + 3 : Nat)) F W1 M1.out).mono ?_
  rintro e w2 ⟨rfl, n3, rfl⟩
  rw [show cHead (s.load r.t (F.first + 3 : Nat)) F = hd from HHD.out.symm]
  have hA3 := hA2.drewN n3
  clear f0 f1 f2 f3 f4 f5 a0 a1 a2 a3 a4 a5 a6 a7 gf4 gf5 ga0 ga1 ga2 ga3 ga4 ga5 ga6 ga7 hne
  have f0 : (W1.drewN n3).cell? ⟨rf, 0, none⟩ = some (.pointer (some ⟨rp, 0, none⟩)) := hA3.f.cell 0
  have f1 : (W1.drewN n3).cell? ⟨rf, 1, none⟩ = some (.int .i64 F.first) := hA3.f.cell 1
  have f2 : (W1.drewN n3).cell? ⟨rf, 2, none⟩ = some (.int .i64 F.n) := hA3.f.cell 2
  have f3 : (W1.drewN n3).cell? ⟨rf, 3, none⟩ = some (.int .u64 F.last) := hA3.f.cell 3
  have f4 : (W1.drewN n3).cell? ⟨rf, 4, none⟩ = some (.bool F.pushing) := hA3.f.cell 4
  have f5 : (W1.drewN n3).cell? ⟨rf, 5, none⟩ = some (.bool F.receiving) := hA3.f.cell 5
  have a0 : (W1.drewN n3).cell? ⟨rb, 0, none⟩ = some (.pointer (some ⟨rf, 0, none⟩)) := hA3.r.cell 0
  have a1 : (W1.drewN n3).cell? ⟨rb, 1, none⟩ = some (.int .i64 r.t) := hA3.r.cell 1
  have a2 : (W1.drewN n3).cell? ⟨rb, 2, none⟩ = some (.int .u64 r.after) := hA3.r.cell 2
  have a3 : (W1.drewN n3).cell? ⟨rb, 3, none⟩ = some (.int .u64 r.l) := hA3.r.cell 3
  have a4 : (W1.drewN n3).cell? ⟨rb, 4, none⟩ = some (.int .u64 v) := hA3.r.cell 4
  have a5 : (W1.drewN n3).cell? ⟨rb, 5, none⟩ = some (.bool r.lagged) := hA3.r.cell 5
  have a6 : (W1.drewN n3).cell? ⟨rb, 6, none⟩ = some (.int .u8 r.ph) := hA3.r.cell 6
  have a7 : (W1.drewN n3).cell? ⟨rb, 7, none⟩ = some (.int .i64 r.err) := hA3.r.cell 7
  have gf4 := hA3.f.free 4
  have gf5 := hA3.f.free 5
  have ga0 := hA3.r.free 0
  have ga1 := hA3.r.free 1
  have ga2 := hA3.r.free 2
  have ga3 := hA3.r.free 3
  have ga4 := hA3.r.free 4
  have ga5 := hA3.r.free 5
  have ga6 := hA3.r.free 6
  have ga7 := hA3.r.free 7
  have hne := hA3.ne
  have HA3 := hid hA3
  clear hA3 hA2
  go_wp2_with fail
  go_ret2
  exact rrres_close 18 Hh.out (HA3.out) rfl rfl rfl rfl rfl (by rfl)
set_option maxRecDepth 100000 in
set_option maxHeartbeats 1000000 in
theorem rrs15c (hph : r.ph = 15) (hc : cTail s F = cHead s F) (hc2 : r.l = 0) : Calls Try.prog 41 #[.pointer (some ⟨rb, 0, none⟩)] w (RRRes B rp vb rf rb mv F r (rstep s F r) (rrv s F r v) w) := by
  have he : rstep s F r = (s.load r.t (F.first + 3 : Nat), { r with ph := 0, err := 17 }) := by unfold rstep; rw [if_neg (by rw [hph]; decide)]; rw [if_pos hph]; rw [if_pos hc, if_pos hc2]
  have hev : rrv s F r v = 0 := by unfold rrv; rw [if_pos hph, if_pos hc, if_pos hc2]
  rw [he, hev]
  clear he hev
  have hA := AtR.start h hq
  have hn := h.hn
  have hn1 := h.ok.n1
  have hn2 := h.ok.n2
  have hroom := h.ok.room
  have f0 : w.cell? ⟨rf, 0, none⟩ = some (.pointer (some ⟨rp, 0, none⟩)) := hA.f.cell 0
  have f1 : w.cell? ⟨rf, 1, none⟩ = some (.int .i64 F.first) := hA.f.cell 1
  have f2 : w.cell? ⟨rf, 2, none⟩ = some (.int .i64 F.n) := hA.f.cell 2
  have f3 : w.cell? ⟨rf, 3, none⟩ = some (.int .u64 F.last) := hA.f.cell 3
  have f4 : w.cell? ⟨rf, 4, none⟩ = some (.bool F.pushing) := hA.f.cell 4
  have f5 : w.cell? ⟨rf, 5, none⟩ = some (.bool F.receiving) := hA.f.cell 5
  have a0 : w.cell? ⟨rb, 0, none⟩ = some (.pointer (some ⟨rf, 0, none⟩)) := hA.r.cell 0
  have a1 : w.cell? ⟨rb, 1, none⟩ = some (.int .i64 r.t) := hA.r.cell 1
  have a2 : w.cell? ⟨rb, 2, none⟩ = some (.int .u64 r.after) := hA.r.cell 2
  have a3 : w.cell? ⟨rb, 3, none⟩ = some (.int .u64 r.l) := hA.r.cell 3
  have a4 : w.cell? ⟨rb, 4, none⟩ = some (.int .u64 v) := hA.r.cell 4
  have a5 : w.cell? ⟨rb, 5, none⟩ = some (.bool r.lagged) := hA.r.cell 5
  have a6 : w.cell? ⟨rb, 6, none⟩ = some (.int .u8 r.ph) := hA.r.cell 6
  have a7 : w.cell? ⟨rb, 7, none⟩ = some (.int .i64 r.err) := hA.r.cell 7
  have gf4 := hA.f.free 4
  have gf5 := hA.f.free 5
  have ga0 := hA.r.free 0
  have ga1 := hA.r.free 1
  have ga2 := hA.r.free 2
  have ga3 := hA.r.free 3
  have ga4 := hA.r.free 4
  have ga5 := hA.r.free 5
  have ga6 := hA.r.free 6
  have ga7 := hA.r.free 7
  have hne := hA.ne
  have bp0 : (r.ph == 0) = false := by rw [beq_eq_false_iff_ne, hph]; decide
  have bp14 : (r.ph == 14) = false := by rw [beq_eq_false_iff_ne, hph]; decide
  have bp15 : (r.ph == 15) = true := by rw [beq_iff_eq]; exact hph
  have bp16 : (r.ph == 16) = false := by rw [beq_eq_false_iff_ne, hph]; decide
  have bp17 : (r.ph == 17) = false := by rw [beq_eq_false_iff_ne, hph]; decide
  have bp18 : (r.ph == 18) = false := by rw [beq_eq_false_iff_ne, hph]; decide
  obtain ⟨hd, hhd⟩ : ∃ y, y = cHead s F := ⟨_, rfl⟩
  obtain ⟨tl, htl⟩ : ∃ y, y = cTail s F := ⟨_, rfl⟩
  have bc : (tl != hd) = false := by rw [bne_eq_false_iff_eq, hhd, htl]; exact hc
  have bl : (r.l != 0) = false := by rw [bne_eq_false_iff_eq]; exact hc2
  clear hc2
  have HHD := hid hhd
  have HTL := hid htl
  clear hc hhd htl hH
  have Hph := hid hph
  have Hh := hid h
  have HA := hid hA
  clear hph hA
  go_enter Try.func41, Try.ntmps41
  go_wp2_with fail
  go_quiet (fail)
  go_wp2_with fail
  obtain ⟨W0, hW0⟩ : ∃ W0, W0 = w.drewN nq := ⟨_, rfl⟩
  have hA0 := HA.out.drewN nq
  rw [← hW0] at hA0 ⊢
  have M0 := hid (show RFeedM B W0 rp vb rf mv s F from by rw [hW0]; exact Hh.out.drewN nq)
  have HW0 := hid hW0
  have hB0 : B ≤ W0.heap.size := by rw [hW0]; exact hB
  clear hW0
  clear f0 f1 f2 f3 f4 f5 a0 a1 a2 a3 a4 a5 a6 a7 gf4 gf5 ga0 ga1 ga2 ga3 ga4 ga5 ga6 ga7 hne
  have f0 : W0.cell? ⟨rf, 0, none⟩ = some (.pointer (some ⟨rp, 0, none⟩)) := hA0.f.cell 0
  have f1 : W0.cell? ⟨rf, 1, none⟩ = some (.int .i64 F.first) := hA0.f.cell 1
  have f2 : W0.cell? ⟨rf, 2, none⟩ = some (.int .i64 F.n) := hA0.f.cell 2
  have f3 : W0.cell? ⟨rf, 3, none⟩ = some (.int .u64 F.last) := hA0.f.cell 3
  have f4 : W0.cell? ⟨rf, 4, none⟩ = some (.bool F.pushing) := hA0.f.cell 4
  have f5 : W0.cell? ⟨rf, 5, none⟩ = some (.bool F.receiving) := hA0.f.cell 5
  have a0 : W0.cell? ⟨rb, 0, none⟩ = some (.pointer (some ⟨rf, 0, none⟩)) := hA0.r.cell 0
  have a1 : W0.cell? ⟨rb, 1, none⟩ = some (.int .i64 r.t) := hA0.r.cell 1
  have a2 : W0.cell? ⟨rb, 2, none⟩ = some (.int .u64 r.after) := hA0.r.cell 2
  have a3 : W0.cell? ⟨rb, 3, none⟩ = some (.int .u64 r.l) := hA0.r.cell 3
  have a4 : W0.cell? ⟨rb, 4, none⟩ = some (.int .u64 v) := hA0.r.cell 4
  have a5 : W0.cell? ⟨rb, 5, none⟩ = some (.bool r.lagged) := hA0.r.cell 5
  have a6 : W0.cell? ⟨rb, 6, none⟩ = some (.int .u8 r.ph) := hA0.r.cell 6
  have a7 : W0.cell? ⟨rb, 7, none⟩ = some (.int .i64 r.err) := hA0.r.cell 7
  have gf4 := hA0.f.free 4
  have gf5 := hA0.f.free 5
  have ga0 := hA0.r.free 0
  have ga1 := hA0.r.free 1
  have ga2 := hA0.r.free 2
  have ga3 := hA0.r.free 3
  have ga4 := hA0.r.free 4
  have ga5 := hA0.r.free 5
  have ga6 := hA0.r.free 6
  have ga7 := hA0.r.free 7
  have hne := hA0.ne
  have HA0 := hid hA0
  clear hA0
  refine Mix.wp_region_mix (fun _ => True) (fun i => ([0, 0, 0, 0, 0, 0, 0, 0, 0, 0, 0, 0, 0, 2, 0, 0, 0, 0, 0] : List Nat).getD i 0) [0, 1, 2, 3, 4, 5, 6, 7, 8, 9, 10, 11, 12, 13, 14, 15, 16, 17, 18] (by kernel_rfl) (by kernel_rfl) ?_
  repeat (first | (refine Mix.mix_q (by simp only [List.getElem?_toArray, List.getElem?_cons_zero, List.getElem?_cons_succ]; exact rfl) rfl ?_; go_big_quiet_step (fail); refine wpQuiet_nil ?_) | (refine Mix.mix_p (by simp only [List.getElem?_toArray, List.getElem?_cons_zero, List.getElem?_cons_succ]; exact rfl) rfl rfl ?_; go_big_quiet_step (fail); refine wpQuiet_nil ?_))
  refine Mix.mix_e (by simp only [List.getElem?_toArray, List.getElem?_cons_zero, List.getElem?_cons_succ]; exact rfl) rfl fun W hW => ?_
  obtain ⟨n1, rfl⟩ := hW
  go_wp2_with fail
  refine (rload_ok B rp vb mv s r.t (F.first + 3 : Nat) _ (rbank_drew HA0.out.b n1) hlen hB0 ⟨ht.1, ht.2, by omega, by omega⟩).mono ?_
  rintro e w1 ⟨rfl, hs1⟩
  obtain ⟨mv', hA1⟩ := (HA0.out.drewN n1).call hs1
  rw [Int.toNat_natCast]
  clear f0 f1 f2 f3 f4 f5 a0 a1 a2 a3 a4 a5 a6 a7 gf4 gf5 ga0 ga1 ga2 ga3 ga4 ga5 ga6 ga7 hne
  have f0 : w1.cell? ⟨rf, 0, none⟩ = some (.pointer (some ⟨rp, 0, none⟩)) := hA1.f.cell 0
  have f1 : w1.cell? ⟨rf, 1, none⟩ = some (.int .i64 F.first) := hA1.f.cell 1
  have f2 : w1.cell? ⟨rf, 2, none⟩ = some (.int .i64 F.n) := hA1.f.cell 2
  have f3 : w1.cell? ⟨rf, 3, none⟩ = some (.int .u64 F.last) := hA1.f.cell 3
  have f4 : w1.cell? ⟨rf, 4, none⟩ = some (.bool F.pushing) := hA1.f.cell 4
  have f5 : w1.cell? ⟨rf, 5, none⟩ = some (.bool F.receiving) := hA1.f.cell 5
  have a0 : w1.cell? ⟨rb, 0, none⟩ = some (.pointer (some ⟨rf, 0, none⟩)) := hA1.r.cell 0
  have a1 : w1.cell? ⟨rb, 1, none⟩ = some (.int .i64 r.t) := hA1.r.cell 1
  have a2 : w1.cell? ⟨rb, 2, none⟩ = some (.int .u64 r.after) := hA1.r.cell 2
  have a3 : w1.cell? ⟨rb, 3, none⟩ = some (.int .u64 r.l) := hA1.r.cell 3
  have a4 : w1.cell? ⟨rb, 4, none⟩ = some (.int .u64 v) := hA1.r.cell 4
  have a5 : w1.cell? ⟨rb, 5, none⟩ = some (.bool r.lagged) := hA1.r.cell 5
  have a6 : w1.cell? ⟨rb, 6, none⟩ = some (.int .u8 r.ph) := hA1.r.cell 6
  have a7 : w1.cell? ⟨rb, 7, none⟩ = some (.int .i64 r.err) := hA1.r.cell 7
  have gf4 := hA1.f.free 4
  have gf5 := hA1.f.free 5
  have ga0 := hA1.r.free 0
  have ga1 := hA1.r.free 1
  have ga2 := hA1.r.free 2
  have ga3 := hA1.r.free 3
  have ga4 := hA1.r.free 4
  have ga5 := hA1.r.free 5
  have ga6 := hA1.r.free 6
  have ga7 := hA1.r.free 7
  have hne := hA1.ne
  have HA1 := hid hA1
  have Hs1 := hid hs1
  clear hA1 hs1
  go_wp2_with fail
  repeat (first | (refine Mix.mix_q (by simp only [List.getElem?_toArray, List.getElem?_cons_zero, List.getElem?_cons_succ]; exact rfl) rfl ?_; go_big_quiet_step (fail); refine wpQuiet_nil ?_) | (refine Mix.mix_p (by simp only [List.getElem?_toArray, List.getElem?_cons_zero, List.getElem?_cons_succ]; exact rfl) rfl rfl ?_; go_big_quiet_step (fail); refine wpQuiet_nil ?_))
  intro n2
  go_wp2_with fail
  obtain ⟨W1, hW1⟩ : ∃ W1, W1 = w1.drewN n2 := ⟨_, rfl⟩
  have M1 := hid (show RFeedM B W1 rp vb rf mv' (s.load r.t (F.first + 3 : Nat)) F from by rw [hW1]; exact ⟨(HA1.out.drewN n2).b, (HA1.out.drewN n2).f, ⟨Hh.out.ok.room, Hh.out.ok.n1, Hh.out.ok.n2⟩, Hh.out.bf⟩)
  have hA2 := HA1.out.drewN n2
  rw [← hW1] at hA2
  have hdx : lk s.vs (F.first + 3) = tl := HTL.out.symm
  try rw [← hW1]
  try rw [hdx]
  clear hW1 hdx
  refine (rhead_any B rp vb rf mv' (s.load r.t (F.first + 3 : Nat)) F W1 M1.out).mono ?_
  rintro e w2 ⟨rfl, n3, rfl⟩
  rw [show cHead (s.load r.t (F.first + 3 : Nat)) F = hd from HHD.out.symm]
  have hA3 := hA2.drewN n3
  clear f0 f1 f2 f3 f4 f5 a0 a1 a2 a3 a4 a5 a6 a7 gf4 gf5 ga0 ga1 ga2 ga3 ga4 ga5 ga6 ga7 hne
  have f0 : (W1.drewN n3).cell? ⟨rf, 0, none⟩ = some (.pointer (some ⟨rp, 0, none⟩)) := hA3.f.cell 0
  have f1 : (W1.drewN n3).cell? ⟨rf, 1, none⟩ = some (.int .i64 F.first) := hA3.f.cell 1
  have f2 : (W1.drewN n3).cell? ⟨rf, 2, none⟩ = some (.int .i64 F.n) := hA3.f.cell 2
  have f3 : (W1.drewN n3).cell? ⟨rf, 3, none⟩ = some (.int .u64 F.last) := hA3.f.cell 3
  have f4 : (W1.drewN n3).cell? ⟨rf, 4, none⟩ = some (.bool F.pushing) := hA3.f.cell 4
  have f5 : (W1.drewN n3).cell? ⟨rf, 5, none⟩ = some (.bool F.receiving) := hA3.f.cell 5
  have a0 : (W1.drewN n3).cell? ⟨rb, 0, none⟩ = some (.pointer (some ⟨rf, 0, none⟩)) := hA3.r.cell 0
  have a1 : (W1.drewN n3).cell? ⟨rb, 1, none⟩ = some (.int .i64 r.t) := hA3.r.cell 1
  have a2 : (W1.drewN n3).cell? ⟨rb, 2, none⟩ = some (.int .u64 r.after) := hA3.r.cell 2
  have a3 : (W1.drewN n3).cell? ⟨rb, 3, none⟩ = some (.int .u64 r.l) := hA3.r.cell 3
  have a4 : (W1.drewN n3).cell? ⟨rb, 4, none⟩ = some (.int .u64 v) := hA3.r.cell 4
  have a5 : (W1.drewN n3).cell? ⟨rb, 5, none⟩ = some (.bool r.lagged) := hA3.r.cell 5
  have a6 : (W1.drewN n3).cell? ⟨rb, 6, none⟩ = some (.int .u8 r.ph) := hA3.r.cell 6
  have a7 : (W1.drewN n3).cell? ⟨rb, 7, none⟩ = some (.int .i64 r.err) := hA3.r.cell 7
  have gf4 := hA3.f.free 4
  have gf5 := hA3.f.free 5
  have ga0 := hA3.r.free 0
  have ga1 := hA3.r.free 1
  have ga2 := hA3.r.free 2
  have ga3 := hA3.r.free 3
  have ga4 := hA3.r.free 4
  have ga5 := hA3.r.free 5
  have ga6 := hA3.r.free 6
  have ga7 := hA3.r.free 7
  have hne := hA3.ne
  have HA3 := hid hA3
  clear hA3 hA2
  go_wp2_with fail
  go_ret2
  exact rrres_close 0 Hh.out ((HA3.out.putR 4 (.int .u64 0)).putR 7 (.int .i64 17)) rfl rfl rfl rfl rfl (by rfl)
set_option maxRecDepth 100000 in
set_option maxHeartbeats 1000000 in
theorem rrs16 (hph : r.ph = 16)  : Calls Try.prog 41 #[.pointer (some ⟨rb, 0, none⟩)] w (RRRes B rp vb rf rb mv F r (rstep s F r) (rrv s F r v) w) := by
  have he : rstep s F r = (s.load r.t (F.ent (cHead s F)), { r with ph := 17, value := lk s.vs (F.ent (cHead s F)) }) := by unfold rstep; rw [if_neg (by rw [hph]; decide)]; rw [if_neg (by rw [hph]; decide)]; rw [if_pos hph] 
  have hev : rrv s F r v = lk s.vs (F.ent (cHead s F)) := by unfold rrv; rw [if_neg (by rw [hph]; decide), if_pos hph]
  rw [he, hev]
  clear he hev
  have hA := AtR.start h hq
  have hn := h.hn
  have hn1 := h.ok.n1
  have hn2 := h.ok.n2
  have hroom := h.ok.room
  have f0 : w.cell? ⟨rf, 0, none⟩ = some (.pointer (some ⟨rp, 0, none⟩)) := hA.f.cell 0
  have f1 : w.cell? ⟨rf, 1, none⟩ = some (.int .i64 F.first) := hA.f.cell 1
  have f2 : w.cell? ⟨rf, 2, none⟩ = some (.int .i64 F.n) := hA.f.cell 2
  have f3 : w.cell? ⟨rf, 3, none⟩ = some (.int .u64 F.last) := hA.f.cell 3
  have f4 : w.cell? ⟨rf, 4, none⟩ = some (.bool F.pushing) := hA.f.cell 4
  have f5 : w.cell? ⟨rf, 5, none⟩ = some (.bool F.receiving) := hA.f.cell 5
  have a0 : w.cell? ⟨rb, 0, none⟩ = some (.pointer (some ⟨rf, 0, none⟩)) := hA.r.cell 0
  have a1 : w.cell? ⟨rb, 1, none⟩ = some (.int .i64 r.t) := hA.r.cell 1
  have a2 : w.cell? ⟨rb, 2, none⟩ = some (.int .u64 r.after) := hA.r.cell 2
  have a3 : w.cell? ⟨rb, 3, none⟩ = some (.int .u64 r.l) := hA.r.cell 3
  have a4 : w.cell? ⟨rb, 4, none⟩ = some (.int .u64 v) := hA.r.cell 4
  have a5 : w.cell? ⟨rb, 5, none⟩ = some (.bool r.lagged) := hA.r.cell 5
  have a6 : w.cell? ⟨rb, 6, none⟩ = some (.int .u8 r.ph) := hA.r.cell 6
  have a7 : w.cell? ⟨rb, 7, none⟩ = some (.int .i64 r.err) := hA.r.cell 7
  have gf4 := hA.f.free 4
  have gf5 := hA.f.free 5
  have ga0 := hA.r.free 0
  have ga1 := hA.r.free 1
  have ga2 := hA.r.free 2
  have ga3 := hA.r.free 3
  have ga4 := hA.r.free 4
  have ga5 := hA.r.free 5
  have ga6 := hA.r.free 6
  have ga7 := hA.r.free 7
  have hne := hA.ne
  have bp0 : (r.ph == 0) = false := by rw [beq_eq_false_iff_ne, hph]; decide
  have bp14 : (r.ph == 14) = false := by rw [beq_eq_false_iff_ne, hph]; decide
  have bp15 : (r.ph == 15) = false := by rw [beq_eq_false_iff_ne, hph]; decide
  have bp16 : (r.ph == 16) = true := by rw [beq_iff_eq]; exact hph
  have bp17 : (r.ph == 17) = false := by rw [beq_eq_false_iff_ne, hph]; decide
  have bp18 : (r.ph == 18) = false := by rw [beq_eq_false_iff_ne, hph]; decide
  obtain ⟨hd, hhd⟩ : ∃ y, y = cHead s F := ⟨_, rfl⟩
  rw [← hhd]
  have hHd : 0 ≤ hd ∧ hd < 18446744073709551616 := by rw [hhd]; omega
  have HHDB := hid hHd
  have HHD := hid hhd
  have hel := ent_lt h.ok hd
  clear hhd hH hHd
  have Hph := hid hph
  have Hh := hid h
  have HA := hid hA
  clear hph hA
  go_enter Try.func41, Try.ntmps41
  go_wp2_with fail
  go_quiet (fail)
  go_wp2_with fail
  obtain ⟨W0, hW0⟩ : ∃ W0, W0 = w.drewN nq := ⟨_, rfl⟩
  have hA0 := HA.out.drewN nq
  rw [← hW0] at hA0 ⊢
  have M0 := hid (show RFeedM B W0 rp vb rf mv s F from by rw [hW0]; exact Hh.out.drewN nq)
  have HW0 := hid hW0
  have hB0 : B ≤ W0.heap.size := by rw [hW0]; exact hB
  clear hW0
  clear f0 f1 f2 f3 f4 f5 a0 a1 a2 a3 a4 a5 a6 a7 gf4 gf5 ga0 ga1 ga2 ga3 ga4 ga5 ga6 ga7 hne
  have f0 : W0.cell? ⟨rf, 0, none⟩ = some (.pointer (some ⟨rp, 0, none⟩)) := hA0.f.cell 0
  have f1 : W0.cell? ⟨rf, 1, none⟩ = some (.int .i64 F.first) := hA0.f.cell 1
  have f2 : W0.cell? ⟨rf, 2, none⟩ = some (.int .i64 F.n) := hA0.f.cell 2
  have f3 : W0.cell? ⟨rf, 3, none⟩ = some (.int .u64 F.last) := hA0.f.cell 3
  have f4 : W0.cell? ⟨rf, 4, none⟩ = some (.bool F.pushing) := hA0.f.cell 4
  have f5 : W0.cell? ⟨rf, 5, none⟩ = some (.bool F.receiving) := hA0.f.cell 5
  have a0 : W0.cell? ⟨rb, 0, none⟩ = some (.pointer (some ⟨rf, 0, none⟩)) := hA0.r.cell 0
  have a1 : W0.cell? ⟨rb, 1, none⟩ = some (.int .i64 r.t) := hA0.r.cell 1
  have a2 : W0.cell? ⟨rb, 2, none⟩ = some (.int .u64 r.after) := hA0.r.cell 2
  have a3 : W0.cell? ⟨rb, 3, none⟩ = some (.int .u64 r.l) := hA0.r.cell 3
  have a4 : W0.cell? ⟨rb, 4, none⟩ = some (.int .u64 v) := hA0.r.cell 4
  have a5 : W0.cell? ⟨rb, 5, none⟩ = some (.bool r.lagged) := hA0.r.cell 5
  have a6 : W0.cell? ⟨rb, 6, none⟩ = some (.int .u8 r.ph) := hA0.r.cell 6
  have a7 : W0.cell? ⟨rb, 7, none⟩ = some (.int .i64 r.err) := hA0.r.cell 7
  have gf4 := hA0.f.free 4
  have gf5 := hA0.f.free 5
  have ga0 := hA0.r.free 0
  have ga1 := hA0.r.free 1
  have ga2 := hA0.r.free 2
  have ga3 := hA0.r.free 3
  have ga4 := hA0.r.free 4
  have ga5 := hA0.r.free 5
  have ga6 := hA0.r.free 6
  have ga7 := hA0.r.free 7
  have hne := hA0.ne
  have HA0 := hid hA0
  clear hA0
  have HQ := hid (show ∀ k, Calls Try.prog 72 #[.pointer (some ⟨rf, 0, none⟩)] (W0.drewN k) fun e w'' => e = .returned (.int .u64 hd) ∧ ∃ m, w'' = W0.drewN m from fun k => by rw [HHD.out]; exact rhead_q B rp vb rf mv s F W0 M0.out k)
  refine Mix.wp_region_mix (fun _ => True) (fun i => ([1, 0, 0, 0, 0, 0, 0, 0, 0, 0, 0, 0, 0, 2, 0, 0, 1, 0, 0, 2] : List Nat).getD i 0) [0, 1, 2, 3, 4, 5, 6, 7, 8, 9, 10, 11, 12, 13, 14, 15, 16, 17, 18, 19] (by kernel_rfl) (by kernel_rfl) ?_
  repeat (first | (refine Mix.mix_q (by simp only [List.getElem?_toArray, List.getElem?_cons_zero, List.getElem?_cons_succ]; exact rfl) rfl ?_; go_big_quiet_step ((first | (go_at_call 72; exact HQ.out _) | (go_at_call 71; exact rfent_q B rp vb rf mv s F W0 M0.out hd HHDB.out _))); refine wpQuiet_nil ?_) | (refine Mix.mix_p (by simp only [List.getElem?_toArray, List.getElem?_cons_zero, List.getElem?_cons_succ]; exact rfl) rfl rfl ?_; go_big_quiet_step (fail); refine wpQuiet_nil ?_))
  refine Mix.mix_e (by simp only [List.getElem?_toArray, List.getElem?_cons_zero, List.getElem?_cons_succ]; exact rfl) rfl fun W hW => ?_
  obtain ⟨n1, rfl⟩ := hW
  go_wp2_with fail
  refine (rload_ok B rp vb mv s r.t (F.ent hd : Nat) _ (rbank_drew HA0.out.b n1) hlen hB0 ⟨ht.1, ht.2, by omega, by omega⟩).mono ?_
  rintro e w1 ⟨rfl, hs1⟩
  obtain ⟨mv', hA1⟩ := (HA0.out.drewN n1).call hs1
  rw [Int.toNat_natCast]
  clear f0 f1 f2 f3 f4 f5 a0 a1 a2 a3 a4 a5 a6 a7 gf4 gf5 ga0 ga1 ga2 ga3 ga4 ga5 ga6 ga7 hne
  have f0 : w1.cell? ⟨rf, 0, none⟩ = some (.pointer (some ⟨rp, 0, none⟩)) := hA1.f.cell 0
  have f1 : w1.cell? ⟨rf, 1, none⟩ = some (.int .i64 F.first) := hA1.f.cell 1
  have f2 : w1.cell? ⟨rf, 2, none⟩ = some (.int .i64 F.n) := hA1.f.cell 2
  have f3 : w1.cell? ⟨rf, 3, none⟩ = some (.int .u64 F.last) := hA1.f.cell 3
  have f4 : w1.cell? ⟨rf, 4, none⟩ = some (.bool F.pushing) := hA1.f.cell 4
  have f5 : w1.cell? ⟨rf, 5, none⟩ = some (.bool F.receiving) := hA1.f.cell 5
  have a0 : w1.cell? ⟨rb, 0, none⟩ = some (.pointer (some ⟨rf, 0, none⟩)) := hA1.r.cell 0
  have a1 : w1.cell? ⟨rb, 1, none⟩ = some (.int .i64 r.t) := hA1.r.cell 1
  have a2 : w1.cell? ⟨rb, 2, none⟩ = some (.int .u64 r.after) := hA1.r.cell 2
  have a3 : w1.cell? ⟨rb, 3, none⟩ = some (.int .u64 r.l) := hA1.r.cell 3
  have a4 : w1.cell? ⟨rb, 4, none⟩ = some (.int .u64 v) := hA1.r.cell 4
  have a5 : w1.cell? ⟨rb, 5, none⟩ = some (.bool r.lagged) := hA1.r.cell 5
  have a6 : w1.cell? ⟨rb, 6, none⟩ = some (.int .u8 r.ph) := hA1.r.cell 6
  have a7 : w1.cell? ⟨rb, 7, none⟩ = some (.int .i64 r.err) := hA1.r.cell 7
  have gf4 := hA1.f.free 4
  have gf5 := hA1.f.free 5
  have ga0 := hA1.r.free 0
  have ga1 := hA1.r.free 1
  have ga2 := hA1.r.free 2
  have ga3 := hA1.r.free 3
  have ga4 := hA1.r.free 4
  have ga5 := hA1.r.free 5
  have ga6 := hA1.r.free 6
  have ga7 := hA1.r.free 7
  have hne := hA1.ne
  have HA1 := hid hA1
  have Hs1 := hid hs1
  clear hA1 hs1
  go_wp2_with fail
  repeat (first | (refine Mix.mix_q (by simp only [List.getElem?_toArray, List.getElem?_cons_zero, List.getElem?_cons_succ]; exact rfl) rfl ?_; go_big_quiet_step (fail); refine wpQuiet_nil ?_) | (refine Mix.mix_p (by simp only [List.getElem?_toArray, List.getElem?_cons_zero, List.getElem?_cons_succ]; exact rfl) rfl rfl ?_; go_big_quiet_step (fail); refine wpQuiet_nil ?_))
  refine Mix.mix_e (by simp only [List.getElem?_toArray, List.getElem?_cons_zero, List.getElem?_cons_succ]; exact rfl) rfl fun W hW => ?_
  obtain ⟨n2, rfl⟩ := hW
  go_wp2_with fail
  refine Mix.mix_world fun w2 hw2 => ?_
  have hA2 := (HA1.out.drewN n2).putR 4 (.int .u64 (lk s.vs (F.ent hd)))
  rw [← hw2] at hA2
  clear f0 f1 f2 f3 f4 f5 a0 a1 a2 a3 a4 a5 a6 a7 gf4 gf5 ga0 ga1 ga2 ga3 ga4 ga5 ga6 ga7 hne
  clear hw2
  have f0 : w2.cell? ⟨rf, 0, none⟩ = some (.pointer (some ⟨rp, 0, none⟩)) := hA2.f.cell 0
  have f1 : w2.cell? ⟨rf, 1, none⟩ = some (.int .i64 F.first) := hA2.f.cell 1
  have f2 : w2.cell? ⟨rf, 2, none⟩ = some (.int .i64 F.n) := hA2.f.cell 2
  have f3 : w2.cell? ⟨rf, 3, none⟩ = some (.int .u64 F.last) := hA2.f.cell 3
  have f4 : w2.cell? ⟨rf, 4, none⟩ = some (.bool F.pushing) := hA2.f.cell 4
  have f5 : w2.cell? ⟨rf, 5, none⟩ = some (.bool F.receiving) := hA2.f.cell 5
  have a0 : w2.cell? ⟨rb, 0, none⟩ = some (.pointer (some ⟨rf, 0, none⟩)) := hA2.r.cell 0
  have a1 : w2.cell? ⟨rb, 1, none⟩ = some (.int .i64 r.t) := hA2.r.cell 1
  have a2 : w2.cell? ⟨rb, 2, none⟩ = some (.int .u64 r.after) := hA2.r.cell 2
  have a3 : w2.cell? ⟨rb, 3, none⟩ = some (.int .u64 r.l) := hA2.r.cell 3
  have a4 : w2.cell? ⟨rb, 4, none⟩ = some (.int .u64 (lk s.vs (F.ent hd))) := hA2.r.cell 4
  have a5 : w2.cell? ⟨rb, 5, none⟩ = some (.bool r.lagged) := hA2.r.cell 5
  have a6 : w2.cell? ⟨rb, 6, none⟩ = some (.int .u8 r.ph) := hA2.r.cell 6
  have a7 : w2.cell? ⟨rb, 7, none⟩ = some (.int .i64 r.err) := hA2.r.cell 7
  have gf4 := hA2.f.free 4
  have gf5 := hA2.f.free 5
  have ga0 := hA2.r.free 0
  have ga1 := hA2.r.free 1
  have ga2 := hA2.r.free 2
  have ga3 := hA2.r.free 3
  have ga4 := hA2.r.free 4
  have ga5 := hA2.r.free 5
  have ga6 := hA2.r.free 6
  have ga7 := hA2.r.free 7
  have hne := hA2.ne
  have HA2 := hid hA2
  clear hA2
  intro n3
  go_wp2_with fail
  go_ret2
  exact rrres_close 17 Hh.out (HA2.out.drewN n3) rfl rfl rfl rfl rfl (by rfl)
set_option maxRecDepth 100000 in
set_option maxHeartbeats 1000000 in
theorem rrs17a (hph : r.ph = 17) (hvv : v = r.value) (hc : r.value ≤ r.after) : Calls Try.prog 41 #[.pointer (some ⟨rb, 0, none⟩)] w (RRRes B rp vb rf rb mv F r (rstep s F r) (rrv s F r v) w) := by
  have he : rstep s F r = (s.store r.t (F.first + 2 : Nat) (w64 (cHead s F + 1)), { r with ph := 14, value := 0 }) := by unfold rstep; rw [if_neg (by rw [hph]; decide)]; rw [if_neg (by rw [hph]; decide)]; rw [if_neg (by rw [hph]; decide)]; rw [if_pos hph]; rw [if_pos hc]
  have hev : rrv s F r v = v := by unfold rrv; rw [if_neg (by rw [hph]; decide), if_neg (by rw [hph]; decide), if_neg (by rw [hph]; decide)]
  rw [he, hev]
  clear he hev
  have hA := AtR.start h hq
  have hn := h.hn
  have hn1 := h.ok.n1
  have hn2 := h.ok.n2
  have hroom := h.ok.room
  have f0 : w.cell? ⟨rf, 0, none⟩ = some (.pointer (some ⟨rp, 0, none⟩)) := hA.f.cell 0
  have f1 : w.cell? ⟨rf, 1, none⟩ = some (.int .i64 F.first) := hA.f.cell 1
  have f2 : w.cell? ⟨rf, 2, none⟩ = some (.int .i64 F.n) := hA.f.cell 2
  have f3 : w.cell? ⟨rf, 3, none⟩ = some (.int .u64 F.last) := hA.f.cell 3
  have f4 : w.cell? ⟨rf, 4, none⟩ = some (.bool F.pushing) := hA.f.cell 4
  have f5 : w.cell? ⟨rf, 5, none⟩ = some (.bool F.receiving) := hA.f.cell 5
  have a0 : w.cell? ⟨rb, 0, none⟩ = some (.pointer (some ⟨rf, 0, none⟩)) := hA.r.cell 0
  have a1 : w.cell? ⟨rb, 1, none⟩ = some (.int .i64 r.t) := hA.r.cell 1
  have a2 : w.cell? ⟨rb, 2, none⟩ = some (.int .u64 r.after) := hA.r.cell 2
  have a3 : w.cell? ⟨rb, 3, none⟩ = some (.int .u64 r.l) := hA.r.cell 3
  have a4 : w.cell? ⟨rb, 4, none⟩ = some (.int .u64 v) := hA.r.cell 4
  have a5 : w.cell? ⟨rb, 5, none⟩ = some (.bool r.lagged) := hA.r.cell 5
  have a6 : w.cell? ⟨rb, 6, none⟩ = some (.int .u8 r.ph) := hA.r.cell 6
  have a7 : w.cell? ⟨rb, 7, none⟩ = some (.int .i64 r.err) := hA.r.cell 7
  have gf4 := hA.f.free 4
  have gf5 := hA.f.free 5
  have ga0 := hA.r.free 0
  have ga1 := hA.r.free 1
  have ga2 := hA.r.free 2
  have ga3 := hA.r.free 3
  have ga4 := hA.r.free 4
  have ga5 := hA.r.free 5
  have ga6 := hA.r.free 6
  have ga7 := hA.r.free 7
  have hne := hA.ne
  have bp0 : (r.ph == 0) = false := by rw [beq_eq_false_iff_ne, hph]; decide
  have bp14 : (r.ph == 14) = false := by rw [beq_eq_false_iff_ne, hph]; decide
  have bp15 : (r.ph == 15) = false := by rw [beq_eq_false_iff_ne, hph]; decide
  have bp16 : (r.ph == 16) = false := by rw [beq_eq_false_iff_ne, hph]; decide
  have bp17 : (r.ph == 17) = true := by rw [beq_iff_eq]; exact hph
  have bp18 : (r.ph == 18) = false := by rw [beq_eq_false_iff_ne, hph]; decide
  obtain ⟨hd, hhd⟩ : ∃ y, y = cHead s F := ⟨_, rfl⟩
  rw [← hhd]
  have hHd : 0 ≤ hd ∧ hd < 18446744073709551616 := by rw [hhd]; omega
  have HHDB := hid hHd
  have HHD := hid hhd
  have hel := ent_lt h.ok hd
  clear hhd hH hHd
  have hw : IntKind.u64.wrap (hd + 1) = w64 (hd + 1) := w64_wrap _
  obtain ⟨t1, ht1⟩ : ∃ t1, t1 = w64 (hd + 1) := ⟨_, rfl⟩
  rw [← ht1] at hw ⊢
  clear ht1
  have bc : decide (v ≤ r.after) = true := decide_eq_true (by rw [hvv]; exact hc)
  clear hc hvv
  have Hph := hid hph
  have Hh := hid h
  have HA := hid hA
  clear hph hA
  go_enter Try.func41, Try.ntmps41
  go_wp2_with fail
  go_quiet (fail)
  go_wp2_with fail
  obtain ⟨W0, hW0⟩ : ∃ W0, W0 = w.drewN nq := ⟨_, rfl⟩
  have hA0 := HA.out.drewN nq
  rw [← hW0] at hA0 ⊢
  have M0 := hid (show RFeedM B W0 rp vb rf mv s F from by rw [hW0]; exact Hh.out.drewN nq)
  have HW0 := hid hW0
  have hB0 : B ≤ W0.heap.size := by rw [hW0]; exact hB
  clear hW0
  clear f0 f1 f2 f3 f4 f5 a0 a1 a2 a3 a4 a5 a6 a7 gf4 gf5 ga0 ga1 ga2 ga3 ga4 ga5 ga6 ga7 hne
  have f0 : W0.cell? ⟨rf, 0, none⟩ = some (.pointer (some ⟨rp, 0, none⟩)) := hA0.f.cell 0
  have f1 : W0.cell? ⟨rf, 1, none⟩ = some (.int .i64 F.first) := hA0.f.cell 1
  have f2 : W0.cell? ⟨rf, 2, none⟩ = some (.int .i64 F.n) := hA0.f.cell 2
  have f3 : W0.cell? ⟨rf, 3, none⟩ = some (.int .u64 F.last) := hA0.f.cell 3
  have f4 : W0.cell? ⟨rf, 4, none⟩ = some (.bool F.pushing) := hA0.f.cell 4
  have f5 : W0.cell? ⟨rf, 5, none⟩ = some (.bool F.receiving) := hA0.f.cell 5
  have a0 : W0.cell? ⟨rb, 0, none⟩ = some (.pointer (some ⟨rf, 0, none⟩)) := hA0.r.cell 0
  have a1 : W0.cell? ⟨rb, 1, none⟩ = some (.int .i64 r.t) := hA0.r.cell 1
  have a2 : W0.cell? ⟨rb, 2, none⟩ = some (.int .u64 r.after) := hA0.r.cell 2
  have a3 : W0.cell? ⟨rb, 3, none⟩ = some (.int .u64 r.l) := hA0.r.cell 3
  have a4 : W0.cell? ⟨rb, 4, none⟩ = some (.int .u64 v) := hA0.r.cell 4
  have a5 : W0.cell? ⟨rb, 5, none⟩ = some (.bool r.lagged) := hA0.r.cell 5
  have a6 : W0.cell? ⟨rb, 6, none⟩ = some (.int .u8 r.ph) := hA0.r.cell 6
  have a7 : W0.cell? ⟨rb, 7, none⟩ = some (.int .i64 r.err) := hA0.r.cell 7
  have gf4 := hA0.f.free 4
  have gf5 := hA0.f.free 5
  have ga0 := hA0.r.free 0
  have ga1 := hA0.r.free 1
  have ga2 := hA0.r.free 2
  have ga3 := hA0.r.free 3
  have ga4 := hA0.r.free 4
  have ga5 := hA0.r.free 5
  have ga6 := hA0.r.free 6
  have ga7 := hA0.r.free 7
  have hne := hA0.ne
  have HA0 := hid hA0
  clear hA0
  have HQ := hid (show ∀ k, Calls Try.prog 72 #[.pointer (some ⟨rf, 0, none⟩)] (W0.drewN k) fun e w'' => e = .returned (.int .u64 hd) ∧ ∃ m, w'' = W0.drewN m from fun k => by rw [HHD.out]; exact rhead_q B rp vb rf mv s F W0 M0.out k)
  refine Mix.wp_region_mix (fun _ => True) (fun i => ([0, 0, 0, 0, 0, 0, 0, 0, 0, 0, 0, 0, 0, 0, 0, 0, 2] : List Nat).getD i 0) [0, 1, 2, 3, 4, 5, 6, 7, 8, 9, 10, 11, 12, 13, 14, 15, 16] (by kernel_rfl) (by kernel_rfl) ?_
  repeat (first | (refine Mix.mix_q (by simp only [List.getElem?_toArray, List.getElem?_cons_zero, List.getElem?_cons_succ]; exact rfl) rfl ?_; go_big_quiet_step ((first | (go_at_call 72; exact HQ.out _) | (go_at_call 71; exact rfent_q B rp vb rf mv s F W0 M0.out hd HHDB.out _))); refine wpQuiet_nil ?_) | (refine Mix.mix_p (by simp only [List.getElem?_toArray, List.getElem?_cons_zero, List.getElem?_cons_succ]; exact rfl) rfl rfl ?_; go_big_quiet_step (fail); refine wpQuiet_nil ?_))
  refine Mix.mix_e (by simp only [List.getElem?_toArray, List.getElem?_cons_zero, List.getElem?_cons_succ]; exact rfl) rfl fun W hW => ?_
  obtain ⟨n1, rfl⟩ := hW
  go_wp2_with fail
  refine (rstore_ok B rp vb mv s r.t (F.first + 2 : Nat) t1 _ (rbank_drew HA0.out.b n1) hlen hB0 ⟨ht.1, ht.2, by omega, by omega⟩).mono ?_
  rintro e w1 ⟨rfl, hs1⟩
  obtain ⟨mv', hA1⟩ := (HA0.out.drewN n1).call hs1
  skip
  clear f0 f1 f2 f3 f4 f5 a0 a1 a2 a3 a4 a5 a6 a7 gf4 gf5 ga0 ga1 ga2 ga3 ga4 ga5 ga6 ga7 hne
  have f0 : w1.cell? ⟨rf, 0, none⟩ = some (.pointer (some ⟨rp, 0, none⟩)) := hA1.f.cell 0
  have f1 : w1.cell? ⟨rf, 1, none⟩ = some (.int .i64 F.first) := hA1.f.cell 1
  have f2 : w1.cell? ⟨rf, 2, none⟩ = some (.int .i64 F.n) := hA1.f.cell 2
  have f3 : w1.cell? ⟨rf, 3, none⟩ = some (.int .u64 F.last) := hA1.f.cell 3
  have f4 : w1.cell? ⟨rf, 4, none⟩ = some (.bool F.pushing) := hA1.f.cell 4
  have f5 : w1.cell? ⟨rf, 5, none⟩ = some (.bool F.receiving) := hA1.f.cell 5
  have a0 : w1.cell? ⟨rb, 0, none⟩ = some (.pointer (some ⟨rf, 0, none⟩)) := hA1.r.cell 0
  have a1 : w1.cell? ⟨rb, 1, none⟩ = some (.int .i64 r.t) := hA1.r.cell 1
  have a2 : w1.cell? ⟨rb, 2, none⟩ = some (.int .u64 r.after) := hA1.r.cell 2
  have a3 : w1.cell? ⟨rb, 3, none⟩ = some (.int .u64 r.l) := hA1.r.cell 3
  have a4 : w1.cell? ⟨rb, 4, none⟩ = some (.int .u64 v) := hA1.r.cell 4
  have a5 : w1.cell? ⟨rb, 5, none⟩ = some (.bool r.lagged) := hA1.r.cell 5
  have a6 : w1.cell? ⟨rb, 6, none⟩ = some (.int .u8 r.ph) := hA1.r.cell 6
  have a7 : w1.cell? ⟨rb, 7, none⟩ = some (.int .i64 r.err) := hA1.r.cell 7
  have gf4 := hA1.f.free 4
  have gf5 := hA1.f.free 5
  have ga0 := hA1.r.free 0
  have ga1 := hA1.r.free 1
  have ga2 := hA1.r.free 2
  have ga3 := hA1.r.free 3
  have ga4 := hA1.r.free 4
  have ga5 := hA1.r.free 5
  have ga6 := hA1.r.free 6
  have ga7 := hA1.r.free 7
  have hne := hA1.ne
  have HA1 := hid hA1
  have Hs1 := hid hs1
  clear hA1 hs1
  go_wp2_with fail
  intro n2
  go_wp2_with fail
  go_quiet (fail)
  go_wp2_with fail
  go_ret2
  exact rrres_close 14 Hh.out (HA1.out.drewN _) rfl rfl rfl rfl (List.length_set ..) (by rfl)
set_option maxRecDepth 100000 in
set_option maxHeartbeats 1000000 in
theorem rrs17b (hph : r.ph = 17) (hvv : v = r.value) (hc : ¬ r.value ≤ r.after) : Calls Try.prog 41 #[.pointer (some ⟨rb, 0, none⟩)] w (RRRes B rp vb rf rb mv F r (rstep s F r) (rrv s F r v) w) := by
  have he : rstep s F r = (s.store r.t (F.first + 2 : Nat) (w64 (cHead s F + 1)), { r with ph := 0 }) := by unfold rstep; rw [if_neg (by rw [hph]; decide)]; rw [if_neg (by rw [hph]; decide)]; rw [if_neg (by rw [hph]; decide)]; rw [if_pos hph]; rw [if_neg hc]
  have hev : rrv s F r v = v := by unfold rrv; rw [if_neg (by rw [hph]; decide), if_neg (by rw [hph]; decide), if_neg (by rw [hph]; decide)]
  rw [he, hev]
  clear he hev
  have hA := AtR.start h hq
  have hn := h.hn
  have hn1 := h.ok.n1
  have hn2 := h.ok.n2
  have hroom := h.ok.room
  have f0 : w.cell? ⟨rf, 0, none⟩ = some (.pointer (some ⟨rp, 0, none⟩)) := hA.f.cell 0
  have f1 : w.cell? ⟨rf, 1, none⟩ = some (.int .i64 F.first) := hA.f.cell 1
  have f2 : w.cell? ⟨rf, 2, none⟩ = some (.int .i64 F.n) := hA.f.cell 2
  have f3 : w.cell? ⟨rf, 3, none⟩ = some (.int .u64 F.last) := hA.f.cell 3
  have f4 : w.cell? ⟨rf, 4, none⟩ = some (.bool F.pushing) := hA.f.cell 4
  have f5 : w.cell? ⟨rf, 5, none⟩ = some (.bool F.receiving) := hA.f.cell 5
  have a0 : w.cell? ⟨rb, 0, none⟩ = some (.pointer (some ⟨rf, 0, none⟩)) := hA.r.cell 0
  have a1 : w.cell? ⟨rb, 1, none⟩ = some (.int .i64 r.t) := hA.r.cell 1
  have a2 : w.cell? ⟨rb, 2, none⟩ = some (.int .u64 r.after) := hA.r.cell 2
  have a3 : w.cell? ⟨rb, 3, none⟩ = some (.int .u64 r.l) := hA.r.cell 3
  have a4 : w.cell? ⟨rb, 4, none⟩ = some (.int .u64 v) := hA.r.cell 4
  have a5 : w.cell? ⟨rb, 5, none⟩ = some (.bool r.lagged) := hA.r.cell 5
  have a6 : w.cell? ⟨rb, 6, none⟩ = some (.int .u8 r.ph) := hA.r.cell 6
  have a7 : w.cell? ⟨rb, 7, none⟩ = some (.int .i64 r.err) := hA.r.cell 7
  have gf4 := hA.f.free 4
  have gf5 := hA.f.free 5
  have ga0 := hA.r.free 0
  have ga1 := hA.r.free 1
  have ga2 := hA.r.free 2
  have ga3 := hA.r.free 3
  have ga4 := hA.r.free 4
  have ga5 := hA.r.free 5
  have ga6 := hA.r.free 6
  have ga7 := hA.r.free 7
  have hne := hA.ne
  have bp0 : (r.ph == 0) = false := by rw [beq_eq_false_iff_ne, hph]; decide
  have bp14 : (r.ph == 14) = false := by rw [beq_eq_false_iff_ne, hph]; decide
  have bp15 : (r.ph == 15) = false := by rw [beq_eq_false_iff_ne, hph]; decide
  have bp16 : (r.ph == 16) = false := by rw [beq_eq_false_iff_ne, hph]; decide
  have bp17 : (r.ph == 17) = true := by rw [beq_iff_eq]; exact hph
  have bp18 : (r.ph == 18) = false := by rw [beq_eq_false_iff_ne, hph]; decide
  obtain ⟨hd, hhd⟩ : ∃ y, y = cHead s F := ⟨_, rfl⟩
  rw [← hhd]
  have hHd : 0 ≤ hd ∧ hd < 18446744073709551616 := by rw [hhd]; omega
  have HHDB := hid hHd
  have HHD := hid hhd
  have hel := ent_lt h.ok hd
  clear hhd hH hHd
  have hw : IntKind.u64.wrap (hd + 1) = w64 (hd + 1) := w64_wrap _
  obtain ⟨t1, ht1⟩ : ∃ t1, t1 = w64 (hd + 1) := ⟨_, rfl⟩
  rw [← ht1] at hw ⊢
  clear ht1
  have bc : decide (v ≤ r.after) = false := decide_eq_false (by rw [hvv]; exact hc)
  clear hc hvv
  have Hph := hid hph
  have Hh := hid h
  have HA := hid hA
  clear hph hA
  go_enter Try.func41, Try.ntmps41
  go_wp2_with fail
  go_quiet (fail)
  go_wp2_with fail
  obtain ⟨W0, hW0⟩ : ∃ W0, W0 = w.drewN nq := ⟨_, rfl⟩
  have hA0 := HA.out.drewN nq
  rw [← hW0] at hA0 ⊢
  have M0 := hid (show RFeedM B W0 rp vb rf mv s F from by rw [hW0]; exact Hh.out.drewN nq)
  have HW0 := hid hW0
  have hB0 : B ≤ W0.heap.size := by rw [hW0]; exact hB
  clear hW0
  clear f0 f1 f2 f3 f4 f5 a0 a1 a2 a3 a4 a5 a6 a7 gf4 gf5 ga0 ga1 ga2 ga3 ga4 ga5 ga6 ga7 hne
  have f0 : W0.cell? ⟨rf, 0, none⟩ = some (.pointer (some ⟨rp, 0, none⟩)) := hA0.f.cell 0
  have f1 : W0.cell? ⟨rf, 1, none⟩ = some (.int .i64 F.first) := hA0.f.cell 1
  have f2 : W0.cell? ⟨rf, 2, none⟩ = some (.int .i64 F.n) := hA0.f.cell 2
  have f3 : W0.cell? ⟨rf, 3, none⟩ = some (.int .u64 F.last) := hA0.f.cell 3
  have f4 : W0.cell? ⟨rf, 4, none⟩ = some (.bool F.pushing) := hA0.f.cell 4
  have f5 : W0.cell? ⟨rf, 5, none⟩ = some (.bool F.receiving) := hA0.f.cell 5
  have a0 : W0.cell? ⟨rb, 0, none⟩ = some (.pointer (some ⟨rf, 0, none⟩)) := hA0.r.cell 0
  have a1 : W0.cell? ⟨rb, 1, none⟩ = some (.int .i64 r.t) := hA0.r.cell 1
  have a2 : W0.cell? ⟨rb, 2, none⟩ = some (.int .u64 r.after) := hA0.r.cell 2
  have a3 : W0.cell? ⟨rb, 3, none⟩ = some (.int .u64 r.l) := hA0.r.cell 3
  have a4 : W0.cell? ⟨rb, 4, none⟩ = some (.int .u64 v) := hA0.r.cell 4
  have a5 : W0.cell? ⟨rb, 5, none⟩ = some (.bool r.lagged) := hA0.r.cell 5
  have a6 : W0.cell? ⟨rb, 6, none⟩ = some (.int .u8 r.ph) := hA0.r.cell 6
  have a7 : W0.cell? ⟨rb, 7, none⟩ = some (.int .i64 r.err) := hA0.r.cell 7
  have gf4 := hA0.f.free 4
  have gf5 := hA0.f.free 5
  have ga0 := hA0.r.free 0
  have ga1 := hA0.r.free 1
  have ga2 := hA0.r.free 2
  have ga3 := hA0.r.free 3
  have ga4 := hA0.r.free 4
  have ga5 := hA0.r.free 5
  have ga6 := hA0.r.free 6
  have ga7 := hA0.r.free 7
  have hne := hA0.ne
  have HA0 := hid hA0
  clear hA0
  have HQ := hid (show ∀ k, Calls Try.prog 72 #[.pointer (some ⟨rf, 0, none⟩)] (W0.drewN k) fun e w'' => e = .returned (.int .u64 hd) ∧ ∃ m, w'' = W0.drewN m from fun k => by rw [HHD.out]; exact rhead_q B rp vb rf mv s F W0 M0.out k)
  refine Mix.wp_region_mix (fun _ => True) (fun i => ([0, 0, 0, 0, 0, 0, 0, 0, 0, 0, 0, 0, 0, 0, 0, 0, 2] : List Nat).getD i 0) [0, 1, 2, 3, 4, 5, 6, 7, 8, 9, 10, 11, 12, 13, 14, 15, 16] (by kernel_rfl) (by kernel_rfl) ?_
  repeat (first | (refine Mix.mix_q (by simp only [List.getElem?_toArray, List.getElem?_cons_zero, List.getElem?_cons_succ]; exact rfl) rfl ?_; go_big_quiet_step ((first | (go_at_call 72; exact HQ.out _) | (go_at_call 71; exact rfent_q B rp vb rf mv s F W0 M0.out hd HHDB.out _))); refine wpQuiet_nil ?_) | (refine Mix.mix_p (by simp only [List.getElem?_toArray, List.getElem?_cons_zero, List.getElem?_cons_succ]; exact rfl) rfl rfl ?_; go_big_quiet_step (fail); refine wpQuiet_nil ?_))
  refine Mix.mix_e (by simp only [List.getElem?_toArray, List.getElem?_cons_zero, List.getElem?_cons_succ]; exact rfl) rfl fun W hW => ?_
  obtain ⟨n1, rfl⟩ := hW
  go_wp2_with fail
  refine (rstore_ok B rp vb mv s r.t (F.first + 2 : Nat) t1 _ (rbank_drew HA0.out.b n1) hlen hB0 ⟨ht.1, ht.2, by omega, by omega⟩).mono ?_
  rintro e w1 ⟨rfl, hs1⟩
  obtain ⟨mv', hA1⟩ := (HA0.out.drewN n1).call hs1
  skip
  clear f0 f1 f2 f3 f4 f5 a0 a1 a2 a3 a4 a5 a6 a7 gf4 gf5 ga0 ga1 ga2 ga3 ga4 ga5 ga6 ga7 hne
  have f0 : w1.cell? ⟨rf, 0, none⟩ = some (.pointer (some ⟨rp, 0, none⟩)) := hA1.f.cell 0
  have f1 : w1.cell? ⟨rf, 1, none⟩ = some (.int .i64 F.first) := hA1.f.cell 1
  have f2 : w1.cell? ⟨rf, 2, none⟩ = some (.int .i64 F.n) := hA1.f.cell 2
  have f3 : w1.cell? ⟨rf, 3, none⟩ = some (.int .u64 F.last) := hA1.f.cell 3
  have f4 : w1.cell? ⟨rf, 4, none⟩ = some (.bool F.pushing) := hA1.f.cell 4
  have f5 : w1.cell? ⟨rf, 5, none⟩ = some (.bool F.receiving) := hA1.f.cell 5
  have a0 : w1.cell? ⟨rb, 0, none⟩ = some (.pointer (some ⟨rf, 0, none⟩)) := hA1.r.cell 0
  have a1 : w1.cell? ⟨rb, 1, none⟩ = some (.int .i64 r.t) := hA1.r.cell 1
  have a2 : w1.cell? ⟨rb, 2, none⟩ = some (.int .u64 r.after) := hA1.r.cell 2
  have a3 : w1.cell? ⟨rb, 3, none⟩ = some (.int .u64 r.l) := hA1.r.cell 3
  have a4 : w1.cell? ⟨rb, 4, none⟩ = some (.int .u64 v) := hA1.r.cell 4
  have a5 : w1.cell? ⟨rb, 5, none⟩ = some (.bool r.lagged) := hA1.r.cell 5
  have a6 : w1.cell? ⟨rb, 6, none⟩ = some (.int .u8 r.ph) := hA1.r.cell 6
  have a7 : w1.cell? ⟨rb, 7, none⟩ = some (.int .i64 r.err) := hA1.r.cell 7
  have gf4 := hA1.f.free 4
  have gf5 := hA1.f.free 5
  have ga0 := hA1.r.free 0
  have ga1 := hA1.r.free 1
  have ga2 := hA1.r.free 2
  have ga3 := hA1.r.free 3
  have ga4 := hA1.r.free 4
  have ga5 := hA1.r.free 5
  have ga6 := hA1.r.free 6
  have ga7 := hA1.r.free 7
  have hne := hA1.ne
  have HA1 := hid hA1
  have Hs1 := hid hs1
  clear hA1 hs1
  go_wp2_with fail
  intro n2
  go_wp2_with fail
  go_quiet (fail)
  go_wp2_with fail
  go_ret2
  exact rrres_close 0 Hh.out (HA1.out.drewN _) rfl rfl rfl rfl (List.length_set ..) (by rfl)
set_option maxRecDepth 100000 in
set_option maxHeartbeats 1000000 in
theorem rrs18a (hph : r.ph = 18) (hc : r.after < cLag s F) : Calls Try.prog 41 #[.pointer (some ⟨rb, 0, none⟩)] w (RRRes B rp vb rf rb mv F r (rstep s F r) (rrv s F r v) w) := by
  have he : rstep s F r = (s.swap r.t (F.first + 1 : Nat) 0, { r with ph := 0, value := cLag s F, lagged := true }) := by unfold rstep; rw [if_neg (by rw [hph]; decide)]; rw [if_neg (by rw [hph]; decide)]; rw [if_neg (by rw [hph]; decide)]; rw [if_neg (by rw [hph]; decide)];  rw [if_pos hc]
  have hev : rrv s F r v = cLag s F := by unfold rrv; rw [if_neg (by rw [hph]; decide), if_neg (by rw [hph]; decide), if_pos hph, if_pos hc]
  rw [he, hev]
  clear he hev
  have hA := AtR.start h hq
  have hn := h.hn
  have hn1 := h.ok.n1
  have hn2 := h.ok.n2
  have hroom := h.ok.room
  have f0 : w.cell? ⟨rf, 0, none⟩ = some (.pointer (some ⟨rp, 0, none⟩)) := hA.f.cell 0
  have f1 : w.cell? ⟨rf, 1, none⟩ = some (.int .i64 F.first) := hA.f.cell 1
  have f2 : w.cell? ⟨rf, 2, none⟩ = some (.int .i64 F.n) := hA.f.cell 2
  have f3 : w.cell? ⟨rf, 3, none⟩ = some (.int .u64 F.last) := hA.f.cell 3
  have f4 : w.cell? ⟨rf, 4, none⟩ = some (.bool F.pushing) := hA.f.cell 4
  have f5 : w.cell? ⟨rf, 5, none⟩ = some (.bool F.receiving) := hA.f.cell 5
  have a0 : w.cell? ⟨rb, 0, none⟩ = some (.pointer (some ⟨rf, 0, none⟩)) := hA.r.cell 0
  have a1 : w.cell? ⟨rb, 1, none⟩ = some (.int .i64 r.t) := hA.r.cell 1
  have a2 : w.cell? ⟨rb, 2, none⟩ = some (.int .u64 r.after) := hA.r.cell 2
  have a3 : w.cell? ⟨rb, 3, none⟩ = some (.int .u64 r.l) := hA.r.cell 3
  have a4 : w.cell? ⟨rb, 4, none⟩ = some (.int .u64 v) := hA.r.cell 4
  have a5 : w.cell? ⟨rb, 5, none⟩ = some (.bool r.lagged) := hA.r.cell 5
  have a6 : w.cell? ⟨rb, 6, none⟩ = some (.int .u8 r.ph) := hA.r.cell 6
  have a7 : w.cell? ⟨rb, 7, none⟩ = some (.int .i64 r.err) := hA.r.cell 7
  have gf4 := hA.f.free 4
  have gf5 := hA.f.free 5
  have ga0 := hA.r.free 0
  have ga1 := hA.r.free 1
  have ga2 := hA.r.free 2
  have ga3 := hA.r.free 3
  have ga4 := hA.r.free 4
  have ga5 := hA.r.free 5
  have ga6 := hA.r.free 6
  have ga7 := hA.r.free 7
  have hne := hA.ne
  have bp0 : (r.ph == 0) = false := by rw [beq_eq_false_iff_ne, hph]; decide
  have bp14 : (r.ph == 14) = false := by rw [beq_eq_false_iff_ne, hph]; decide
  have bp15 : (r.ph == 15) = false := by rw [beq_eq_false_iff_ne, hph]; decide
  have bp16 : (r.ph == 16) = false := by rw [beq_eq_false_iff_ne, hph]; decide
  have bp17 : (r.ph == 17) = false := by rw [beq_eq_false_iff_ne, hph]; decide
  have bp18 : (r.ph == 18) = true := by rw [beq_iff_eq]; exact hph
  have bc : decide (r.after < lk s.vs (F.first + 1)) = true := decide_eq_true hc
  clear hc
  have Hph := hid hph
  have Hh := hid h
  have HA := hid hA
  clear hph hA
  go_enter Try.func41, Try.ntmps41
  go_wp2_with fail
  go_quiet (fail)
  go_wp2_with fail
  obtain ⟨W0, hW0⟩ : ∃ W0, W0 = w.drewN nq := ⟨_, rfl⟩
  have hA0 := HA.out.drewN nq
  rw [← hW0] at hA0 ⊢
  have M0 := hid (show RFeedM B W0 rp vb rf mv s F from by rw [hW0]; exact Hh.out.drewN nq)
  have HW0 := hid hW0
  have hB0 : B ≤ W0.heap.size := by rw [hW0]; exact hB
  clear hW0
  clear f0 f1 f2 f3 f4 f5 a0 a1 a2 a3 a4 a5 a6 a7 gf4 gf5 ga0 ga1 ga2 ga3 ga4 ga5 ga6 ga7 hne
  have f0 : W0.cell? ⟨rf, 0, none⟩ = some (.pointer (some ⟨rp, 0, none⟩)) := hA0.f.cell 0
  have f1 : W0.cell? ⟨rf, 1, none⟩ = some (.int .i64 F.first) := hA0.f.cell 1
  have f2 : W0.cell? ⟨rf, 2, none⟩ = some (.int .i64 F.n) := hA0.f.cell 2
  have f3 : W0.cell? ⟨rf, 3, none⟩ = some (.int .u64 F.last) := hA0.f.cell 3
  have f4 : W0.cell? ⟨rf, 4, none⟩ = some (.bool F.pushing) := hA0.f.cell 4
  have f5 : W0.cell? ⟨rf, 5, none⟩ = some (.bool F.receiving) := hA0.f.cell 5
  have a0 : W0.cell? ⟨rb, 0, none⟩ = some (.pointer (some ⟨rf, 0, none⟩)) := hA0.r.cell 0
  have a1 : W0.cell? ⟨rb, 1, none⟩ = some (.int .i64 r.t) := hA0.r.cell 1
  have a2 : W0.cell? ⟨rb, 2, none⟩ = some (.int .u64 r.after) := hA0.r.cell 2
  have a3 : W0.cell? ⟨rb, 3, none⟩ = some (.int .u64 r.l) := hA0.r.cell 3
  have a4 : W0.cell? ⟨rb, 4, none⟩ = some (.int .u64 v) := hA0.r.cell 4
  have a5 : W0.cell? ⟨rb, 5, none⟩ = some (.bool r.lagged) := hA0.r.cell 5
  have a6 : W0.cell? ⟨rb, 6, none⟩ = some (.int .u8 r.ph) := hA0.r.cell 6
  have a7 : W0.cell? ⟨rb, 7, none⟩ = some (.int .i64 r.err) := hA0.r.cell 7
  have gf4 := hA0.f.free 4
  have gf5 := hA0.f.free 5
  have ga0 := hA0.r.free 0
  have ga1 := hA0.r.free 1
  have ga2 := hA0.r.free 2
  have ga3 := hA0.r.free 3
  have ga4 := hA0.r.free 4
  have ga5 := hA0.r.free 5
  have ga6 := hA0.r.free 6
  have ga7 := hA0.r.free 7
  have hne := hA0.ne
  have HA0 := hid hA0
  clear hA0
  refine Mix.wp_region_mix (fun _ => True) (fun i => ([1, 0, 0, 0, 0, 0, 0, 0, 0, 0, 0, 0, 0, 0, 2, 0, 0, 1, 0, 0, 2] : List Nat).getD i 0) [0, 1, 2, 3, 4, 5, 6, 7, 8, 9, 10, 11, 12, 13, 14, 15, 16, 17, 18, 19, 20] (by kernel_rfl) (by kernel_rfl) ?_
  repeat (first | (refine Mix.mix_q (by simp only [List.getElem?_toArray, List.getElem?_cons_zero, List.getElem?_cons_succ]; exact rfl) rfl ?_; go_big_quiet_step (fail); refine wpQuiet_nil ?_) | (refine Mix.mix_p (by simp only [List.getElem?_toArray, List.getElem?_cons_zero, List.getElem?_cons_succ]; exact rfl) rfl rfl ?_; go_big_quiet_step (fail); refine wpQuiet_nil ?_))
  refine Mix.mix_e (by simp only [List.getElem?_toArray, List.getElem?_cons_zero, List.getElem?_cons_succ]; exact rfl) rfl fun W hW => ?_
  obtain ⟨n1, rfl⟩ := hW
  go_wp2_with fail
  refine (rswap_ok B rp vb mv s r.t (F.first + 1 : Nat) 0 _ (rbank_drew HA0.out.b n1) hlen hB0 ⟨ht.1, ht.2, by omega, by omega⟩).mono ?_
  rintro e w1 ⟨rfl, hs1⟩
  obtain ⟨mv', hA1⟩ := (HA0.out.drewN n1).call hs1
  rw [Int.toNat_natCast]
  clear f0 f1 f2 f3 f4 f5 a0 a1 a2 a3 a4 a5 a6 a7 gf4 gf5 ga0 ga1 ga2 ga3 ga4 ga5 ga6 ga7 hne
  have f0 : w1.cell? ⟨rf, 0, none⟩ = some (.pointer (some ⟨rp, 0, none⟩)) := hA1.f.cell 0
  have f1 : w1.cell? ⟨rf, 1, none⟩ = some (.int .i64 F.first) := hA1.f.cell 1
  have f2 : w1.cell? ⟨rf, 2, none⟩ = some (.int .i64 F.n) := hA1.f.cell 2
  have f3 : w1.cell? ⟨rf, 3, none⟩ = some (.int .u64 F.last) := hA1.f.cell 3
  have f4 : w1.cell? ⟨rf, 4, none⟩ = some (.bool F.pushing) := hA1.f.cell 4
  have f5 : w1.cell? ⟨rf, 5, none⟩ = some (.bool F.receiving) := hA1.f.cell 5
  have a0 : w1.cell? ⟨rb, 0, none⟩ = some (.pointer (some ⟨rf, 0, none⟩)) := hA1.r.cell 0
  have a1 : w1.cell? ⟨rb, 1, none⟩ = some (.int .i64 r.t) := hA1.r.cell 1
  have a2 : w1.cell? ⟨rb, 2, none⟩ = some (.int .u64 r.after) := hA1.r.cell 2
  have a3 : w1.cell? ⟨rb, 3, none⟩ = some (.int .u64 r.l) := hA1.r.cell 3
  have a4 : w1.cell? ⟨rb, 4, none⟩ = some (.int .u64 v) := hA1.r.cell 4
  have a5 : w1.cell? ⟨rb, 5, none⟩ = some (.bool r.lagged) := hA1.r.cell 5
  have a6 : w1.cell? ⟨rb, 6, none⟩ = some (.int .u8 r.ph) := hA1.r.cell 6
  have a7 : w1.cell? ⟨rb, 7, none⟩ = some (.int .i64 r.err) := hA1.r.cell 7
  have gf4 := hA1.f.free 4
  have gf5 := hA1.f.free 5
  have ga0 := hA1.r.free 0
  have ga1 := hA1.r.free 1
  have ga2 := hA1.r.free 2
  have ga3 := hA1.r.free 3
  have ga4 := hA1.r.free 4
  have ga5 := hA1.r.free 5
  have ga6 := hA1.r.free 6
  have ga7 := hA1.r.free 7
  have hne := hA1.ne
  have HA1 := hid hA1
  have Hs1 := hid hs1
  clear hA1 hs1
  go_wp2_with fail
  repeat (first | (refine Mix.mix_q (by simp only [List.getElem?_toArray, List.getElem?_cons_zero, List.getElem?_cons_succ]; exact rfl) rfl ?_; go_big_quiet_step (fail); refine wpQuiet_nil ?_) | (refine Mix.mix_p (by simp only [List.getElem?_toArray, List.getElem?_cons_zero, List.getElem?_cons_succ]; exact rfl) rfl rfl ?_; go_big_quiet_step (fail); refine wpQuiet_nil ?_))
  refine Mix.mix_e (by simp only [List.getElem?_toArray, List.getElem?_cons_zero, List.getElem?_cons_succ]; exact rfl) rfl fun W hW => ?_
  obtain ⟨n2, rfl⟩ := hW
  go_wp2_with fail
  refine Mix.mix_world fun w2 hw2 => ?_
  have hA2 := (HA1.out.drewN n2).putR 4 (.int .u64 (lk s.vs (F.first + 1)))
  rw [← hw2] at hA2
  clear f0 f1 f2 f3 f4 f5 a0 a1 a2 a3 a4 a5 a6 a7 gf4 gf5 ga0 ga1 ga2 ga3 ga4 ga5 ga6 ga7 hne
  clear hw2
  have f0 : w2.cell? ⟨rf, 0, none⟩ = some (.pointer (some ⟨rp, 0, none⟩)) := hA2.f.cell 0
  have f1 : w2.cell? ⟨rf, 1, none⟩ = some (.int .i64 F.first) := hA2.f.cell 1
  have f2 : w2.cell? ⟨rf, 2, none⟩ = some (.int .i64 F.n) := hA2.f.cell 2
  have f3 : w2.cell? ⟨rf, 3, none⟩ = some (.int .u64 F.last) := hA2.f.cell 3
  have f4 : w2.cell? ⟨rf, 4, none⟩ = some (.bool F.pushing) := hA2.f.cell 4
  have f5 : w2.cell? ⟨rf, 5, none⟩ = some (.bool F.receiving) := hA2.f.cell 5
  have a0 : w2.cell? ⟨rb, 0, none⟩ = some (.pointer (some ⟨rf, 0, none⟩)) := hA2.r.cell 0
  have a1 : w2.cell? ⟨rb, 1, none⟩ = some (.int .i64 r.t) := hA2.r.cell 1
  have a2 : w2.cell? ⟨rb, 2, none⟩ = some (.int .u64 r.after) := hA2.r.cell 2
  have a3 : w2.cell? ⟨rb, 3, none⟩ = some (.int .u64 r.l) := hA2.r.cell 3
  have a4 : w2.cell? ⟨rb, 4, none⟩ = some (.int .u64 (lk s.vs (F.first + 1))) := hA2.r.cell 4
  have a5 : w2.cell? ⟨rb, 5, none⟩ = some (.bool r.lagged) := hA2.r.cell 5
  have a6 : w2.cell? ⟨rb, 6, none⟩ = some (.int .u8 r.ph) := hA2.r.cell 6
  have a7 : w2.cell? ⟨rb, 7, none⟩ = some (.int .i64 r.err) := hA2.r.cell 7
  have gf4 := hA2.f.free 4
  have gf5 := hA2.f.free 5
  have ga0 := hA2.r.free 0
  have ga1 := hA2.r.free 1
  have ga2 := hA2.r.free 2
  have ga3 := hA2.r.free 3
  have ga4 := hA2.r.free 4
  have ga5 := hA2.r.free 5
  have ga6 := hA2.r.free 6
  have ga7 := hA2.r.free 7
  have hne := hA2.ne
  have HA2 := hid hA2
  clear hA2
  intro n3
  go_wp2_with fail
  refine Mix.wp_region_mix (fun _ => True) (fun i => ([0, 0, 0, 0, 0, 0, 0, 0, 0, 0, 0, 0, 2] : List Nat).getD i 0) [0, 1, 2, 3, 4, 5, 6, 7, 8, 9, 10, 11, 12] (by kernel_rfl) (by kernel_rfl) ?_
  repeat (first | (refine Mix.mix_q (by simp only [List.getElem?_toArray, List.getElem?_cons_zero, List.getElem?_cons_succ]; exact rfl) rfl ?_; go_big_quiet_step (fail); refine wpQuiet_nil ?_) | (refine Mix.mix_p (by simp only [List.getElem?_toArray, List.getElem?_cons_zero, List.getElem?_cons_succ]; exact rfl) rfl rfl ?_; go_big_quiet_step (fail); refine wpQuiet_nil ?_))
  refine Mix.mix_e (by simp only [List.getElem?_toArray, List.getElem?_cons_zero, List.getElem?_cons_succ]; exact rfl) rfl fun W hW => ?_
  obtain ⟨n4, rfl⟩ := hW
  go_wp2_with fail
  refine Mix.mix_world fun w3 hw3 => ?_
  have hA3 := (HA2.out.drewN (n3 + n4)).putR 5 (.bool true)
  have hw3' : w3 = ((w2.drewN (n3 + n4)).setCell ⟨rb, 5, none⟩ (.bool true)) := by rw [hw3]
  rw [← hw3'] at hA3
  clear hw3 hw3'
  clear f0 f1 f2 f3 f4 f5 a0 a1 a2 a3 a4 a5 a6 a7 gf4 gf5 ga0 ga1 ga2 ga3 ga4 ga5 ga6 ga7 hne
  have f0 : w3.cell? ⟨rf, 0, none⟩ = some (.pointer (some ⟨rp, 0, none⟩)) := hA3.f.cell 0
  have f1 : w3.cell? ⟨rf, 1, none⟩ = some (.int .i64 F.first) := hA3.f.cell 1
  have f2 : w3.cell? ⟨rf, 2, none⟩ = some (.int .i64 F.n) := hA3.f.cell 2
  have f3 : w3.cell? ⟨rf, 3, none⟩ = some (.int .u64 F.last) := hA3.f.cell 3
  have f4 : w3.cell? ⟨rf, 4, none⟩ = some (.bool F.pushing) := hA3.f.cell 4
  have f5 : w3.cell? ⟨rf, 5, none⟩ = some (.bool F.receiving) := hA3.f.cell 5
  have a0 : w3.cell? ⟨rb, 0, none⟩ = some (.pointer (some ⟨rf, 0, none⟩)) := hA3.r.cell 0
  have a1 : w3.cell? ⟨rb, 1, none⟩ = some (.int .i64 r.t) := hA3.r.cell 1
  have a2 : w3.cell? ⟨rb, 2, none⟩ = some (.int .u64 r.after) := hA3.r.cell 2
  have a3 : w3.cell? ⟨rb, 3, none⟩ = some (.int .u64 r.l) := hA3.r.cell 3
  have a4 : w3.cell? ⟨rb, 4, none⟩ = some (.int .u64 (lk s.vs (F.first + 1))) := hA3.r.cell 4
  have a5 : w3.cell? ⟨rb, 5, none⟩ = some (.bool true) := hA3.r.cell 5
  have a6 : w3.cell? ⟨rb, 6, none⟩ = some (.int .u8 r.ph) := hA3.r.cell 6
  have a7 : w3.cell? ⟨rb, 7, none⟩ = some (.int .i64 r.err) := hA3.r.cell 7
  have gf4 := hA3.f.free 4
  have gf5 := hA3.f.free 5
  have ga0 := hA3.r.free 0
  have ga1 := hA3.r.free 1
  have ga2 := hA3.r.free 2
  have ga3 := hA3.r.free 3
  have ga4 := hA3.r.free 4
  have ga5 := hA3.r.free 5
  have ga6 := hA3.r.free 6
  have ga7 := hA3.r.free 7
  have hne := hA3.ne
  have HA3 := hid hA3
  clear hA3
  intro n5
  go_wp2_with fail
  go_ret2
  exact rrres_close 0 Hh.out (HA3.out.drewN n5) rfl rfl rfl rfl (List.length_set ..) (by rfl)
set_option maxRecDepth 100000 in
set_option maxHeartbeats 1000000 in
theorem rrs18b (hph : r.ph = 18) (hc : ¬ r.after < cLag s F) : Calls Try.prog 41 #[.pointer (some ⟨rb, 0, none⟩)] w (RRRes B rp vb rf rb mv F r (rstep s F r) (rrv s F r v) w) := by
  have he : rstep s F r = (s.swap r.t (F.first + 1 : Nat) 0, { r with ph := 0, value := 0, lagged := false, err := 17 }) := by unfold rstep; rw [if_neg (by rw [hph]; decide)]; rw [if_neg (by rw [hph]; decide)]; rw [if_neg (by rw [hph]; decide)]; rw [if_neg (by rw [hph]; decide)];  rw [if_neg hc]
  have hev : rrv s F r v = 0 := by unfold rrv; rw [if_neg (by rw [hph]; decide), if_neg (by rw [hph]; decide), if_pos hph, if_neg hc]
  rw [he, hev]
  clear he hev
  have hA := AtR.start h hq
  have hn := h.hn
  have hn1 := h.ok.n1
  have hn2 := h.ok.n2
  have hroom := h.ok.room
  have f0 : w.cell? ⟨rf, 0, none⟩ = some (.pointer (some ⟨rp, 0, none⟩)) := hA.f.cell 0
  have f1 : w.cell? ⟨rf, 1, none⟩ = some (.int .i64 F.first) := hA.f.cell 1
  have f2 : w.cell? ⟨rf, 2, none⟩ = some (.int .i64 F.n) := hA.f.cell 2
  have f3 : w.cell? ⟨rf, 3, none⟩ = some (.int .u64 F.last) := hA.f.cell 3
  have f4 : w.cell? ⟨rf, 4, none⟩ = some (.bool F.pushing) := hA.f.cell 4
  have f5 : w.cell? ⟨rf, 5, none⟩ = some (.bool F.receiving) := hA.f.cell 5
  have a0 : w.cell? ⟨rb, 0, none⟩ = some (.pointer (some ⟨rf, 0, none⟩)) := hA.r.cell 0
  have a1 : w.cell? ⟨rb, 1, none⟩ = some (.int .i64 r.t) := hA.r.cell 1
  have a2 : w.cell? ⟨rb, 2, none⟩ = some (.int .u64 r.after) := hA.r.cell 2
  have a3 : w.cell? ⟨rb, 3, none⟩ = some (.int .u64 r.l) := hA.r.cell 3
  have a4 : w.cell? ⟨rb, 4, none⟩ = some (.int .u64 v) := hA.r.cell 4
  have a5 : w.cell? ⟨rb, 5, none⟩ = some (.bool r.lagged) := hA.r.cell 5
  have a6 : w.cell? ⟨rb, 6, none⟩ = some (.int .u8 r.ph) := hA.r.cell 6
  have a7 : w.cell? ⟨rb, 7, none⟩ = some (.int .i64 r.err) := hA.r.cell 7
  have gf4 := hA.f.free 4
  have gf5 := hA.f.free 5
  have ga0 := hA.r.free 0
  have ga1 := hA.r.free 1
  have ga2 := hA.r.free 2
  have ga3 := hA.r.free 3
  have ga4 := hA.r.free 4
  have ga5 := hA.r.free 5
  have ga6 := hA.r.free 6
  have ga7 := hA.r.free 7
  have hne := hA.ne
  have bp0 : (r.ph == 0) = false := by rw [beq_eq_false_iff_ne, hph]; decide
  have bp14 : (r.ph == 14) = false := by rw [beq_eq_false_iff_ne, hph]; decide
  have bp15 : (r.ph == 15) = false := by rw [beq_eq_false_iff_ne, hph]; decide
  have bp16 : (r.ph == 16) = false := by rw [beq_eq_false_iff_ne, hph]; decide
  have bp17 : (r.ph == 17) = false := by rw [beq_eq_false_iff_ne, hph]; decide
  have bp18 : (r.ph == 18) = true := by rw [beq_iff_eq]; exact hph
  have bc : decide (r.after < lk s.vs (F.first + 1)) = false := decide_eq_false hc
  clear hc
  have Hph := hid hph
  have Hh := hid h
  have HA := hid hA
  clear hph hA
  go_enter Try.func41, Try.ntmps41
  go_wp2_with fail
  go_quiet (fail)
  go_wp2_with fail
  obtain ⟨W0, hW0⟩ : ∃ W0, W0 = w.drewN nq := ⟨_, rfl⟩
  have hA0 := HA.out.drewN nq
  rw [← hW0] at hA0 ⊢
  have M0 := hid (show RFeedM B W0 rp vb rf mv s F from by rw [hW0]; exact Hh.out.drewN nq)
  have HW0 := hid hW0
  have hB0 : B ≤ W0.heap.size := by rw [hW0]; exact hB
  clear hW0
  clear f0 f1 f2 f3 f4 f5 a0 a1 a2 a3 a4 a5 a6 a7 gf4 gf5 ga0 ga1 ga2 ga3 ga4 ga5 ga6 ga7 hne
  have f0 : W0.cell? ⟨rf, 0, none⟩ = some (.pointer (some ⟨rp, 0, none⟩)) := hA0.f.cell 0
  have f1 : W0.cell? ⟨rf, 1, none⟩ = some (.int .i64 F.first) := hA0.f.cell 1
  have f2 : W0.cell? ⟨rf, 2, none⟩ = some (.int .i64 F.n) := hA0.f.cell 2
  have f3 : W0.cell? ⟨rf, 3, none⟩ = some (.int .u64 F.last) := hA0.f.cell 3
  have f4 : W0.cell? ⟨rf, 4, none⟩ = some (.bool F.pushing) := hA0.f.cell 4
  have f5 : W0.cell? ⟨rf, 5, none⟩ = some (.bool F.receiving) := hA0.f.cell 5
  have a0 : W0.cell? ⟨rb, 0, none⟩ = some (.pointer (some ⟨rf, 0, none⟩)) := hA0.r.cell 0
  have a1 : W0.cell? ⟨rb, 1, none⟩ = some (.int .i64 r.t) := hA0.r.cell 1
  have a2 : W0.cell? ⟨rb, 2, none⟩ = some (.int .u64 r.after) := hA0.r.cell 2
  have a3 : W0.cell? ⟨rb, 3, none⟩ = some (.int .u64 r.l) := hA0.r.cell 3
  have a4 : W0.cell? ⟨rb, 4, none⟩ = some (.int .u64 v) := hA0.r.cell 4
  have a5 : W0.cell? ⟨rb, 5, none⟩ = some (.bool r.lagged) := hA0.r.cell 5
  have a6 : W0.cell? ⟨rb, 6, none⟩ = some (.int .u8 r.ph) := hA0.r.cell 6
  have a7 : W0.cell? ⟨rb, 7, none⟩ = some (.int .i64 r.err) := hA0.r.cell 7
  have gf4 := hA0.f.free 4
  have gf5 := hA0.f.free 5
  have ga0 := hA0.r.free 0
  have ga1 := hA0.r.free 1
  have ga2 := hA0.r.free 2
  have ga3 := hA0.r.free 3
  have ga4 := hA0.r.free 4
  have ga5 := hA0.r.free 5
  have ga6 := hA0.r.free 6
  have ga7 := hA0.r.free 7
  have hne := hA0.ne
  have HA0 := hid hA0
  clear hA0
  refine Mix.wp_region_mix (fun _ => True) (fun i => ([1, 0, 0, 0, 0, 0, 0, 0, 0, 0, 0, 0, 0, 0, 2, 0, 0, 1, 0, 0, 2] : List Nat).getD i 0) [0, 1, 2, 3, 4, 5, 6, 7, 8, 9, 10, 11, 12, 13, 14, 15, 16, 17, 18, 19, 20] (by kernel_rfl) (by kernel_rfl) ?_
  repeat (first | (refine Mix.mix_q (by simp only [List.getElem?_toArray, List.getElem?_cons_zero, List.getElem?_cons_succ]; exact rfl) rfl ?_; go_big_quiet_step (fail); refine wpQuiet_nil ?_) | (refine Mix.mix_p (by simp only [List.getElem?_toArray, List.getElem?_cons_zero, List.getElem?_cons_succ]; exact rfl) rfl rfl ?_; go_big_quiet_step (fail); refine wpQuiet_nil ?_))
  refine Mix.mix_e (by simp only [List.getElem?_toArray, List.getElem?_cons_zero, List.getElem?_cons_succ]; exact rfl) rfl fun W hW => ?_
  obtain ⟨n1, rfl⟩ := hW
  go_wp2_with fail
  refine (rswap_ok B rp vb mv s r.t (F.first + 1 : Nat) 0 _ (rbank_drew HA0.out.b n1) hlen hB0 ⟨ht.1, ht.2, by omega, by omega⟩).mono ?_
  rintro e w1 ⟨rfl, hs1⟩
  obtain ⟨mv', hA1⟩ := (HA0.out.drewN n1).call hs1
  rw [Int.toNat_natCast]
  clear f0 f1 f2 f3 f4 f5 a0 a1 a2 a3 a4 a5 a6 a7 gf4 gf5 ga0 ga1 ga2 ga3 ga4 ga5 ga6 ga7 hne
  have f0 : w1.cell? ⟨rf, 0, none⟩ = some (.pointer (some ⟨rp, 0, none⟩)) := hA1.f.cell 0
  have f1 : w1.cell? ⟨rf, 1, none⟩ = some (.int .i64 F.first) := hA1.f.cell 1
  have f2 : w1.cell? ⟨rf, 2, none⟩ = some (.int .i64 F.n) := hA1.f.cell 2
  have f3 : w1.cell? ⟨rf, 3, none⟩ = some (.int .u64 F.last) := hA1.f.cell 3
  have f4 : w1.cell? ⟨rf, 4, none⟩ = some (.bool F.pushing) := hA1.f.cell 4
  have f5 : w1.cell? ⟨rf, 5, none⟩ = some (.bool F.receiving) := hA1.f.cell 5
  have a0 : w1.cell? ⟨rb, 0, none⟩ = some (.pointer (some ⟨rf, 0, none⟩)) := hA1.r.cell 0
  have a1 : w1.cell? ⟨rb, 1, none⟩ = some (.int .i64 r.t) := hA1.r.cell 1
  have a2 : w1.cell? ⟨rb, 2, none⟩ = some (.int .u64 r.after) := hA1.r.cell 2
  have a3 : w1.cell? ⟨rb, 3, none⟩ = some (.int .u64 r.l) := hA1.r.cell 3
  have a4 : w1.cell? ⟨rb, 4, none⟩ = some (.int .u64 v) := hA1.r.cell 4
  have a5 : w1.cell? ⟨rb, 5, none⟩ = some (.bool r.lagged) := hA1.r.cell 5
  have a6 : w1.cell? ⟨rb, 6, none⟩ = some (.int .u8 r.ph) := hA1.r.cell 6
  have a7 : w1.cell? ⟨rb, 7, none⟩ = some (.int .i64 r.err) := hA1.r.cell 7
  have gf4 := hA1.f.free 4
  have gf5 := hA1.f.free 5
  have ga0 := hA1.r.free 0
  have ga1 := hA1.r.free 1
  have ga2 := hA1.r.free 2
  have ga3 := hA1.r.free 3
  have ga4 := hA1.r.free 4
  have ga5 := hA1.r.free 5
  have ga6 := hA1.r.free 6
  have ga7 := hA1.r.free 7
  have hne := hA1.ne
  have HA1 := hid hA1
  have Hs1 := hid hs1
  clear hA1 hs1
  go_wp2_with fail
  repeat (first | (refine Mix.mix_q (by simp only [List.getElem?_toArray, List.getElem?_cons_zero, List.getElem?_cons_succ]; exact rfl) rfl ?_; go_big_quiet_step (fail); refine wpQuiet_nil ?_) | (refine Mix.mix_p (by simp only [List.getElem?_toArray, List.getElem?_cons_zero, List.getElem?_cons_succ]; exact rfl) rfl rfl ?_; go_big_quiet_step (fail); refine wpQuiet_nil ?_))
  refine Mix.mix_e (by simp only [List.getElem?_toArray, List.getElem?_cons_zero, List.getElem?_cons_succ]; exact rfl) rfl fun W hW => ?_
  obtain ⟨n2, rfl⟩ := hW
  go_wp2_with fail
  refine Mix.mix_world fun w2 hw2 => ?_
  have hA2 := (HA1.out.drewN n2).putR 4 (.int .u64 (lk s.vs (F.first + 1)))
  rw [← hw2] at hA2
  clear f0 f1 f2 f3 f4 f5 a0 a1 a2 a3 a4 a5 a6 a7 gf4 gf5 ga0 ga1 ga2 ga3 ga4 ga5 ga6 ga7 hne
  clear hw2
  have f0 : w2.cell? ⟨rf, 0, none⟩ = some (.pointer (some ⟨rp, 0, none⟩)) := hA2.f.cell 0
  have f1 : w2.cell? ⟨rf, 1, none⟩ = some (.int .i64 F.first) := hA2.f.cell 1
  have f2 : w2.cell? ⟨rf, 2, none⟩ = some (.int .i64 F.n) := hA2.f.cell 2
  have f3 : w2.cell? ⟨rf, 3, none⟩ = some (.int .u64 F.last) := hA2.f.cell 3
  have f4 : w2.cell? ⟨rf, 4, none⟩ = some (.bool F.pushing) := hA2.f.cell 4
  have f5 : w2.cell? ⟨rf, 5, none⟩ = some (.bool F.receiving) := hA2.f.cell 5
  have a0 : w2.cell? ⟨rb, 0, none⟩ = some (.pointer (some ⟨rf, 0, none⟩)) := hA2.r.cell 0
  have a1 : w2.cell? ⟨rb, 1, none⟩ = some (.int .i64 r.t) := hA2.r.cell 1
  have a2 : w2.cell? ⟨rb, 2, none⟩ = some (.int .u64 r.after) := hA2.r.cell 2
  have a3 : w2.cell? ⟨rb, 3, none⟩ = some (.int .u64 r.l) := hA2.r.cell 3
  have a4 : w2.cell? ⟨rb, 4, none⟩ = some (.int .u64 (lk s.vs (F.first + 1))) := hA2.r.cell 4
  have a5 : w2.cell? ⟨rb, 5, none⟩ = some (.bool r.lagged) := hA2.r.cell 5
  have a6 : w2.cell? ⟨rb, 6, none⟩ = some (.int .u8 r.ph) := hA2.r.cell 6
  have a7 : w2.cell? ⟨rb, 7, none⟩ = some (.int .i64 r.err) := hA2.r.cell 7
  have gf4 := hA2.f.free 4
  have gf5 := hA2.f.free 5
  have ga0 := hA2.r.free 0
  have ga1 := hA2.r.free 1
  have ga2 := hA2.r.free 2
  have ga3 := hA2.r.free 3
  have ga4 := hA2.r.free 4
  have ga5 := hA2.r.free 5
  have ga6 := hA2.r.free 6
  have ga7 := hA2.r.free 7
  have hne := hA2.ne
  have HA2 := hid hA2
  clear hA2
  intro n3
  go_wp2_with fail
  refine Mix.wp_region_mix (fun _ => True) (fun i => ([0, 0, 0, 0, 0, 0, 0, 0, 0, 0, 0, 0, 2] : List Nat).getD i 0) [0, 1, 2, 3, 4, 5, 6, 7, 8, 9, 10, 11, 12] (by kernel_rfl) (by kernel_rfl) ?_
  repeat (first | (refine Mix.mix_q (by simp only [List.getElem?_toArray, List.getElem?_cons_zero, List.getElem?_cons_succ]; exact rfl) rfl ?_; go_big_quiet_step (fail); refine wpQuiet_nil ?_) | (refine Mix.mix_p (by simp only [List.getElem?_toArray, List.getElem?_cons_zero, List.getElem?_cons_succ]; exact rfl) rfl rfl ?_; go_big_quiet_step (fail); refine wpQuiet_nil ?_))
  refine Mix.mix_e (by simp only [List.getElem?_toArray, List.getElem?_cons_zero, List.getElem?_cons_succ]; exact rfl) rfl fun W hW => ?_
  obtain ⟨n4, rfl⟩ := hW
  go_wp2_with fail
  refine Mix.mix_world fun w3 hw3 => ?_
  have hA3 := (HA2.out.drewN (n3 + n4)).putR 5 (.bool false)
  have hw3' : w3 = ((w2.drewN (n3 + n4)).setCell ⟨rb, 5, none⟩ (.bool false)) := by rw [hw3]
  rw [← hw3'] at hA3
  clear hw3 hw3'
  clear f0 f1 f2 f3 f4 f5 a0 a1 a2 a3 a4 a5 a6 a7 gf4 gf5 ga0 ga1 ga2 ga3 ga4 ga5 ga6 ga7 hne
  have f0 : w3.cell? ⟨rf, 0, none⟩ = some (.pointer (some ⟨rp, 0, none⟩)) := hA3.f.cell 0
  have f1 : w3.cell? ⟨rf, 1, none⟩ = some (.int .i64 F.first) := hA3.f.cell 1
  have f2 : w3.cell? ⟨rf, 2, none⟩ = some (.int .i64 F.n) := hA3.f.cell 2
  have f3 : w3.cell? ⟨rf, 3, none⟩ = some (.int .u64 F.last) := hA3.f.cell 3
  have f4 : w3.cell? ⟨rf, 4, none⟩ = some (.bool F.pushing) := hA3.f.cell 4
  have f5 : w3.cell? ⟨rf, 5, none⟩ = some (.bool F.receiving) := hA3.f.cell 5
  have a0 : w3.cell? ⟨rb, 0, none⟩ = some (.pointer (some ⟨rf, 0, none⟩)) := hA3.r.cell 0
  have a1 : w3.cell? ⟨rb, 1, none⟩ = some (.int .i64 r.t) := hA3.r.cell 1
  have a2 : w3.cell? ⟨rb, 2, none⟩ = some (.int .u64 r.after) := hA3.r.cell 2
  have a3 : w3.cell? ⟨rb, 3, none⟩ = some (.int .u64 r.l) := hA3.r.cell 3
  have a4 : w3.cell? ⟨rb, 4, none⟩ = some (.int .u64 (lk s.vs (F.first + 1))) := hA3.r.cell 4
  have a5 : w3.cell? ⟨rb, 5, none⟩ = some (.bool false) := hA3.r.cell 5
  have a6 : w3.cell? ⟨rb, 6, none⟩ = some (.int .u8 r.ph) := hA3.r.cell 6
  have a7 : w3.cell? ⟨rb, 7, none⟩ = some (.int .i64 r.err) := hA3.r.cell 7
  have gf4 := hA3.f.free 4
  have gf5 := hA3.f.free 5
  have ga0 := hA3.r.free 0
  have ga1 := hA3.r.free 1
  have ga2 := hA3.r.free 2
  have ga3 := hA3.r.free 3
  have ga4 := hA3.r.free 4
  have ga5 := hA3.r.free 5
  have ga6 := hA3.r.free 6
  have ga7 := hA3.r.free 7
  have hne := hA3.ne
  have HA3 := hid hA3
  clear hA3
  intro n5
  go_wp2_with fail
  go_ret2
  exact rrres_close 0 Hh.out (((HA3.out.drewN n5).putR 4 (.int .u64 0)).putR 7 (.int .i64 17)) rfl rfl rfl rfl (List.length_set ..) (by rfl)
set_option maxRecDepth 100000 in
set_option maxHeartbeats 400000 in
theorem rrs0 (hph : r.ph = 0) : Calls Try.prog 41 #[.pointer (some ⟨rb, 0, none⟩)] w fun e w' => e = .returned (.tuple #[.int .u8 0, .bool true]) ∧ ∃ n, w' = w.drewN n := by
  have a0 : w.cell? ⟨rb, 0, none⟩ = some (.pointer (some ⟨rf, 0, none⟩)) := hq.cell 0
  have a6 : w.cell? ⟨rb, 6, none⟩ = some (.int .u8 r.ph) := hq.cell 6
  have bp0 : (r.ph == 0) = true := by rw [beq_iff_eq]; exact hph
  have bp14 : (r.ph == 14) = false := by rw [beq_eq_false_iff_ne, hph]; decide
  have bp15 : (r.ph == 15) = false := by rw [beq_eq_false_iff_ne, hph]; decide
  have bp16 : (r.ph == 16) = false := by rw [beq_eq_false_iff_ne, hph]; decide
  have bp17 : (r.ph == 17) = false := by rw [beq_eq_false_iff_ne, hph]; decide
  have bp18 : (r.ph == 18) = false := by rw [beq_eq_false_iff_ne, hph]; decide
  clear h hq
  go_enter Try.func41, Try.ntmps41
  go_wp2_with fail
  go_quiet (fail)
  go_wp2_with fail
  go_ret2
  exact ⟨rfl, _, rfl⟩
/-- A step of a reception. -/
theorem rrstep_any (hph : r.ph = 14 ∨ r.ph = 15 ∨ r.ph = 16 ∨ r.ph = 17 ∨ r.ph = 18) (hvv : r.ph = 17 → v = r.value) : Calls Try.prog 41 #[.pointer (some ⟨rb, 0, none⟩)] w (RRRes B rp vb rf rb mv F r (rstep s F r) (rrv s F r v) w) := by
  rcases hph with e | e | e | e | e
  · exact rrs14 B rp vb rf rb mv s F r v w h hq ht hlen hB hH e
  · by_cases hc : cTail s F = cHead s F
    · by_cases hl : r.l = 0
      · exact rrs15c B rp vb rf rb mv s F r v w h hq ht hlen hB hH e hc hl
      · exact rrs15b B rp vb rf rb mv s F r v w h hq ht hlen hB hH e hc hl
    · exact rrs15a B rp vb rf rb mv s F r v w h hq ht hlen hB hH e hc
  · exact rrs16 B rp vb rf rb mv s F r v w h hq ht hlen hB hH e
  · by_cases hc : r.value ≤ r.after
    · exact rrs17a B rp vb rf rb mv s F r v w h hq ht hlen hB hH e (hvv e) hc
    · exact rrs17b B rp vb rf rb mv s F r v w h hq ht hlen hB hH e (hvv e) hc
  · by_cases hc : r.after < cLag s F
    · exact rrs18a B rp vb rf rb mv s F r v w h hq ht hlen hB hH e hc
    · exact rrs18b B rp vb rf rb mv s F r v w h hq ht hlen hB hH e hc
end
end Go.Proofs.Ytonjbofdmmnpdaa
