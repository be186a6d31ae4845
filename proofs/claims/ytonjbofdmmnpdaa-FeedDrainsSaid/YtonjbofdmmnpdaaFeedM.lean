/- The feed's run: consume, a reception begun. -/
import Derived.Test.YtonjbofdmmnpdaaFeedL
namespace Go.Proofs.Ytonjbofdmmnpdaa
open Go.RowKit
set_option linter.unusedVariables false
set_option linter.unusedSimpArgs false
set_option linter.unusedSectionVars false


set_option maxRecDepth 100000 in
set_option maxHeartbeats 2000000 in
theorem con_bega (B p cb fb X : Nat) (x : Xs) (m H T a : Nat) (w0 w : World) (hR0 : x.R = none) (hI : Inv x m H T a) (hm : m ≤ 1000) (hX : RunX B p cb fb X x w0 w) (hfl0 : flen (rstep x.s x.begR.f ⟨0, 14, lastI x.got, 0, 0, false, 0⟩).1 x.f = 0) :
    Calls Try.prog 16 #[.pointer (some ⟨X, 0, none⟩)] w fun e w' => e = .returned (.bool true) ∧ RunX B p cb fb X (x.begR.conR ⟨0, 14, lastI x.got, 0, 0, false, 0⟩) w0 w' := by
  have hIb := inv_begR hI hR0
  obtain ⟨H', a', hI', htk, hend⟩ := inv_conR hIb hm rfl
  have hitl : x.items.length ≤ 2000 := by rw [hI.il]; have := hI.HT; omega
  have hpul : x.pushed.length ≤ 2000 := by have := hI.pm; omega
  have hgol : x.got.length ≤ 2000 := by have := hI.gl; omega
  have hlal : x.lags.length = x.got.length := hI.gl.1.symm
  have hlg := hI.lg
  have hend2 : x.ended ≤ 2000 := by have := hI.pl; omega
  have hHT0 := hI'.HT
  obtain ⟨lv, vp, vi, vg, vl, pb, rb, hR⟩ := hX
  rw [hR0] at hR
  obtain ⟨s1, r1, ho⟩ : ∃ s1 r1, rstep x.s x.begR.f ⟨0, 14, lastI x.got, 0, 0, false, 0⟩ = (s1, r1) := ⟨_, _, rfl⟩
  have hrf : x.f.receiving = false := by rw [hI.fpr.2, hR0]; rfl
  have htk1 : (0 : Nat) + 1 ≤ 4 := by omega
  obtain ⟨Ap, cp, rfl, _⟩ := own_slice hR.rp
  obtain ⟨Ai, ci, rfl, _⟩ := own_slice hR.ri
  obtain ⟨Ag, cg, rfl, _⟩ := own_slice hR.rg
  have hz : r1.ph = 15 := by
    have : (rstep x.s x.begR.f ⟨0, 14, lastI x.got, 0, 0, false, 0⟩).2.ph = 15 := by unfold rstep; rw [if_pos rfl]
    rw [ho] at this
    exact this
  have hbn : (r1.ph == 0) = false := by rw [beq_eq_false_iff_ne]; omega
  have hbt : decide ((0 : Int) + 1 ≤ 4) = true := decide_eq_true (by omega)
  rw [ho] at hfl0
  obtain ⟨fl, hflen⟩ : ∃ fl : Nat, flen s1 x.f = fl := ⟨_, rfl⟩
  have hflz : fl = 0 := by rw [← hflen]; exact hfl0
  have hflb : ((fl : Int) == 0) = true := by rw [beq_iff_eq]; omega
  have HiF := hid hflen
  have Hfz := hid hflz
  have HzE := hid hz
  have HiH : Hid (cHead s1 (x.begR.f.rcv (r1.ph != 0)) = (H' : Nat)) := hid (by have := hI'.hH; unfold Xs.conR Xs.stR at this; rw [show x.begR.s = x.s from rfl, ho] at this; simpa [hz] using this)
  have HiT : Hid (cTail s1 (x.begR.f.rcv (r1.ph != 0)) = (T : Nat)) := hid (by have := hI'.hT; unfold Xs.conR Xs.stR at this; rw [show x.begR.s = x.s from rfl, ho] at this; simpa [hz] using this)
  clear hz hflen hflz hfl0
  have x0 : w.cell? ⟨X, 0, none⟩ = some (.pointer (some ⟨fb, 0, none⟩)) := hR.x.cell 0
  have gx0 := hR.x.free 0
  have x2 : w.cell? ⟨X, 2, none⟩ = some (.pointer none) := hR.x.cell 2
  have gx2 := hR.x.free 2
  have x4 : w.cell? ⟨X, 4, none⟩ = some (.slice Ap x.pushed.length cp) := hR.x.cell 4
  have gx4 := hR.x.free 4
  have x6 : w.cell? ⟨X, 6, none⟩ = some (.int .i64 x.ended) := hR.x.cell 6
  have gx6 := hR.x.free 6
  have x10 : w.cell? ⟨X, 10, none⟩ = some (.int .i64 x.takes) := hR.x.cell 10
  have gx10 := hR.x.free 10
  have x12 : w.cell? ⟨X, 12, none⟩ = some (.int .i64 x.looked) := hR.x.cell 12
  have gx12 := hR.x.free 12
  have x13 : w.cell? ⟨X, 13, none⟩ = some (.bool x.clean) := hR.x.cell 13
  have gx13 := hR.x.free 13
  have x17 : w.cell? ⟨X, 17, none⟩ = some (.bool true) := hR.x.cell 17
  have gx17 := hR.x.free 17
  have x18 : w.cell? ⟨X, 18, none⟩ = some (.bool true) := hR.x.cell 18
  have gx18 := hR.x.free 18
  have x7 : w.cell? ⟨X, 7, none⟩ = some (.slice Ag x.got.length cg) := hR.x.cell 7
  have HR := hid hR
  have Ho := hid ho
  have HlG := hid hlal
  have HRF := hid hrf
  clear hrf
  have HI' := hid hI'
  have Hend := hid hend
  have HR0 := hid hR0
  clear hR ho hI hI' hend hR0 htk hlal hIb
  go_enter Try.func16, Try.ntmps16
  go_wp2_with fail
  refine Mix.wp_region_mix (fun _ => True) (fun i => ([0, 0, 0, 0, 0, 0, 2, 0, 0, 0, 0, 0] : List Nat).getD i 0) [0, 1, 2, 3, 4, 5, 6, 7, 8, 9, 10, 11] (by kernel_rfl) (by kernel_rfl) ?_
  repeat (refine Mix.mix_q (by simp only [List.getElem?_toArray, List.getElem?_cons_zero, List.getElem?_cons_succ]; exact rfl) rfl ?_; go_big_quiet_step ((go_at_call 18; exact last_q B X _ x.got _ x7 HR.out.rg (by omega) _)); refine wpQuiet_nil ?_)
  refine Mix.mix_e (by simp only [List.getElem?_toArray, List.getElem?_cons_zero, List.getElem?_cons_succ]; exact rfl) rfl fun W1 hW1 => ?_
  obtain ⟨n1, rfl⟩ := hW1
  go_wp2_with fail
  refine (frecv_ok B p cb fb lv x.s x.f _ (HR.out.drewN n1).fm 0 (lastI x.got) ⟨by decide, by decide⟩ HRF.out).mono ?_
  rintro e w1 ⟨rb, rfl, hf1, hq1, hc1, hqb⟩
  have hR1 := ((HR.out.drewN n1).fed hf1 hc1).setR (r := ⟨0, 14, lastI x.got, 0, 0, false, 0⟩) hq1 (Nat.le_trans (HR.out.drewN n1).bz hqb)
  clear hf1 hq1 hc1 x7
  clear x0 gx0 x2 gx2 x4 gx4 x6 gx6 x10 gx10 x12 gx12 x13 gx13 x17 gx17 x18 gx18
  have x0 : w1.cell? ⟨X, 0, none⟩ = some (.pointer (some ⟨fb, 0, none⟩)) := hR1.x.cell 0
  have gx0 := hR1.x.free 0
  have x2 : w1.cell? ⟨X, 2, none⟩ = some (.pointer none) := hR1.x.cell 2
  have gx2 := hR1.x.free 2
  have x4 : w1.cell? ⟨X, 4, none⟩ = some (.slice Ap x.pushed.length cp) := hR1.x.cell 4
  have gx4 := hR1.x.free 4
  have x6 : w1.cell? ⟨X, 6, none⟩ = some (.int .i64 x.ended) := hR1.x.cell 6
  have gx6 := hR1.x.free 6
  have x10 : w1.cell? ⟨X, 10, none⟩ = some (.int .i64 x.takes) := hR1.x.cell 10
  have gx10 := hR1.x.free 10
  have x12 : w1.cell? ⟨X, 12, none⟩ = some (.int .i64 x.looked) := hR1.x.cell 12
  have gx12 := hR1.x.free 12
  have x13 : w1.cell? ⟨X, 13, none⟩ = some (.bool x.clean) := hR1.x.cell 13
  have gx13 := hR1.x.free 13
  have x17 : w1.cell? ⟨X, 17, none⟩ = some (.bool true) := hR1.x.cell 17
  have gx17 := hR1.x.free 17
  have x18 : w1.cell? ⟨X, 18, none⟩ = some (.bool true) := hR1.x.cell 18
  have gx18 := hR1.x.free 18
  have HRa := hid hR1
  clear hR1
  go_wp2_with fail
  repeat (refine Mix.mix_q (by simp only [List.getElem?_toArray, List.getElem?_cons_zero, List.getElem?_cons_succ]; exact rfl) rfl ?_; go_big_quiet_step (fail); refine wpQuiet_nil ?_)
  intro n2
  have HRb := hid (HRa.out.drewN n2)
  go_wp2_with fail
  refine calls_world fun w3 hw3 => ?_
  have hR3 := ((HRb.out.put 2 (.pointer (some ⟨rb, 0, none⟩))).put 10 (.int .i64 0))
  rw [← hw3] at hR3
  clear x0 gx0 x2 gx2 x4 gx4 x6 gx6 x10 gx10 x12 gx12 x13 gx13 x17 gx17 x18 gx18
  clear hw3
  have x0 : w3.cell? ⟨X, 0, none⟩ = some (.pointer (some ⟨fb, 0, none⟩)) := hR3.x.cell 0
  have gx0 := hR3.x.free 0
  have x2 : w3.cell? ⟨X, 2, none⟩ = some (.pointer (some ⟨rb, 0, none⟩)) := hR3.x.cell 2
  have gx2 := hR3.x.free 2
  have x4 : w3.cell? ⟨X, 4, none⟩ = some (.slice Ap x.pushed.length cp) := hR3.x.cell 4
  have gx4 := hR3.x.free 4
  have x6 : w3.cell? ⟨X, 6, none⟩ = some (.int .i64 x.ended) := hR3.x.cell 6
  have gx6 := hR3.x.free 6
  have x10 : w3.cell? ⟨X, 10, none⟩ = some (.int .i64 0) := hR3.x.cell 10
  have gx10 := hR3.x.free 10
  have x12 : w3.cell? ⟨X, 12, none⟩ = some (.int .i64 x.looked) := hR3.x.cell 12
  have gx12 := hR3.x.free 12
  have x13 : w3.cell? ⟨X, 13, none⟩ = some (.bool x.clean) := hR3.x.cell 13
  have gx13 := hR3.x.free 13
  have x17 : w3.cell? ⟨X, 17, none⟩ = some (.bool true) := hR3.x.cell 17
  have gx17 := hR3.x.free 17
  have x18 : w3.cell? ⟨X, 18, none⟩ = some (.bool true) := hR3.x.cell 18
  have gx18 := hR3.x.free 18
  have HR3 := hid hR3
  clear hR3
  refine (rstep_any B p cb fb rb lv x.s x.begR.f ⟨0, 14, lastI x.got, 0, 0, false, 0⟩ w3 HR3.out.fm (HR3.out.rr rb _ rfl).1 ⟨by show (0 : Int) ≤ 0; decide, by show (0 : Int) < 16; decide⟩ (by omega) HR3.out.bz (.inl rfl)).mono ?_
  rw [Ho.out]
  rintro e wa ⟨rfl, lv1, hfa, hra, hca, hya⟩
  have hRa := HR3.out.received rfl hfa hra hca
  clear hfa hra hca hya
  clear x0 gx0 x2 gx2 x4 gx4 x6 gx6 x10 gx10 x12 gx12 x13 gx13 x17 gx17 x18 gx18
  have x0 : wa.cell? ⟨X, 0, none⟩ = some (.pointer (some ⟨fb, 0, none⟩)) := hRa.x.cell 0
  have gx0 := hRa.x.free 0
  have x2 : wa.cell? ⟨X, 2, none⟩ = some (.pointer (some ⟨rb, 0, none⟩)) := hRa.x.cell 2
  have gx2 := hRa.x.free 2
  have x4 : wa.cell? ⟨X, 4, none⟩ = some (.slice Ap x.pushed.length cp) := hRa.x.cell 4
  have gx4 := hRa.x.free 4
  have x6 : wa.cell? ⟨X, 6, none⟩ = some (.int .i64 x.ended) := hRa.x.cell 6
  have gx6 := hRa.x.free 6
  have x10 : wa.cell? ⟨X, 10, none⟩ = some (.int .i64 0) := hRa.x.cell 10
  have gx10 := hRa.x.free 10
  have x12 : wa.cell? ⟨X, 12, none⟩ = some (.int .i64 x.looked) := hRa.x.cell 12
  have gx12 := hRa.x.free 12
  have x13 : wa.cell? ⟨X, 13, none⟩ = some (.bool x.clean) := hRa.x.cell 13
  have gx13 := hRa.x.free 13
  have x17 : wa.cell? ⟨X, 17, none⟩ = some (.bool true) := hRa.x.cell 17
  have gx17 := hRa.x.free 17
  have x18 : wa.cell? ⟨X, 18, none⟩ = some (.bool true) := hRa.x.cell 18
  have gx18 := hRa.x.free 18
  have HRs := hid hRa
  clear hRa
  go_wp2_with fail
  refine calls_world fun wb hwb => ?_
  have hRb := ((HRs.out.put 10 (.int .i64 1)).put 18 (.bool true)).put 12 (.int .i64 x.ended)
  rw [← hwb] at hRb
  clear x0 gx0 x2 gx2 x4 gx4 x6 gx6 x10 gx10 x12 gx12 x13 gx13 x17 gx17 x18 gx18
  clear hwb
  have x0 : wb.cell? ⟨X, 0, none⟩ = some (.pointer (some ⟨fb, 0, none⟩)) := hRb.x.cell 0
  have gx0 := hRb.x.free 0
  have x2 : wb.cell? ⟨X, 2, none⟩ = some (.pointer (some ⟨rb, 0, none⟩)) := hRb.x.cell 2
  have gx2 := hRb.x.free 2
  have x4 : wb.cell? ⟨X, 4, none⟩ = some (.slice Ap x.pushed.length cp) := hRb.x.cell 4
  have gx4 := hRb.x.free 4
  have x6 : wb.cell? ⟨X, 6, none⟩ = some (.int .i64 x.ended) := hRb.x.cell 6
  have gx6 := hRb.x.free 6
  have x10 : wb.cell? ⟨X, 10, none⟩ = some (.int .i64 1) := hRb.x.cell 10
  have gx10 := hRb.x.free 10
  have x12 : wb.cell? ⟨X, 12, none⟩ = some (.int .i64 x.ended) := hRb.x.cell 12
  have gx12 := hRb.x.free 12
  have x13 : wb.cell? ⟨X, 13, none⟩ = some (.bool x.clean) := hRb.x.cell 13
  have gx13 := hRb.x.free 13
  have x17 : wb.cell? ⟨X, 17, none⟩ = some (.bool true) := hRb.x.cell 17
  have gx17 := hRb.x.free 17
  have x18 : wb.cell? ⟨X, 18, none⟩ = some (.bool true) := hRb.x.cell 18
  have gx18 := hRb.x.free 18
  have HRc := hid hRb
  clear hRb
  refine (flist_any B p cb fb _ s1 _ _ HRc.out.fm H' T HiH.out HiT.out (by omega) (by omega)).mono ?_
  rintro e wd ⟨v4, rfl, hrow4, hc4⟩
  rw [flist_length, show flen s1 (x.begR.f.rcv (r1.ph != 0)) = flen s1 x.f from rfl, HiF.out] at hrow4
  obtain ⟨a4, c4, rfl, _⟩ := own_slice hrow4
  have hRd := HRc.out.keep hc4
  clear x0 gx0 x2 gx2 x4 gx4 x6 gx6 x10 gx10 x12 gx12 x13 gx13 x17 gx17 x18 gx18
  have x0 : wd.cell? ⟨X, 0, none⟩ = some (.pointer (some ⟨fb, 0, none⟩)) := hRd.x.cell 0
  have gx0 := hRd.x.free 0
  have x2 : wd.cell? ⟨X, 2, none⟩ = some (.pointer (some ⟨rb, 0, none⟩)) := hRd.x.cell 2
  have gx2 := hRd.x.free 2
  have x4 : wd.cell? ⟨X, 4, none⟩ = some (.slice Ap x.pushed.length cp) := hRd.x.cell 4
  have gx4 := hRd.x.free 4
  have x6 : wd.cell? ⟨X, 6, none⟩ = some (.int .i64 x.ended) := hRd.x.cell 6
  have gx6 := hRd.x.free 6
  have x10 : wd.cell? ⟨X, 10, none⟩ = some (.int .i64 1) := hRd.x.cell 10
  have gx10 := hRd.x.free 10
  have x12 : wd.cell? ⟨X, 12, none⟩ = some (.int .i64 x.ended) := hRd.x.cell 12
  have gx12 := hRd.x.free 12
  have x13 : wd.cell? ⟨X, 13, none⟩ = some (.bool x.clean) := hRd.x.cell 13
  have gx13 := hRd.x.free 13
  have x17 : wd.cell? ⟨X, 17, none⟩ = some (.bool true) := hRd.x.cell 17
  have gx17 := hRd.x.free 17
  have x18 : wd.cell? ⟨X, 18, none⟩ = some (.bool true) := hRd.x.cell 18
  have gx18 := hRd.x.free 18
  have HRd := hid hRd
  clear hRd hc4 hrow4
  go_wp2_with fail
  refine (flag_any B p cb fb _ s1 _ wd HRd.out.fm).mono ?_
  rintro e we ⟨rfl, rfl⟩
  go_wp2_with fail
  go_ret
  refine ⟨rfl, ?_⟩
  have hz := HzE.out
  have hE : x.begR.conR ⟨0, 14, lastI x.got, 0, 0, false, 0⟩ = { x.begR with s := s1, f := x.begR.f.rcv (r1.ph != 0), R := some r1, takes := 0 + 1, looked := x.ended, clean := (cLag s1 x.begR.f == 0) } := by
    unfold Xs.conR Xs.stR
    rw [show x.begR.s = x.s from rfl, Ho.out]
    have hn0 : ¬ r1.ph = 0 := by omega
    have hfe : flen s1 x.begR.f = fl := HiF.out
    have hcl : (decide (flen s1 x.begR.f = 0) && decide (cLag s1 x.begR.f = 0)) = (cLag s1 x.begR.f == 0) := by
      rw [hfe]
      have := Hfz.out
      simp [this]; rfl
    simp only [hn0, if_false, if_true, hcl]
    try rfl
  rw [hE]
  exact runX_mk (HRd.out.put 13 (.bool ((cLag s1 x.begR.f == 0)))) pb rb rfl rfl rfl rfl rfl rfl rfl rfl (by rfl)

set_option maxRecDepth 100000 in
set_option maxHeartbeats 2000000 in
theorem con_begb (B p cb fb X : Nat) (x : Xs) (m H T a : Nat) (w0 w : World) (hR0 : x.R = none) (hI : Inv x m H T a) (hm : m ≤ 1000) (hX : RunX B p cb fb X x w0 w) (hfl0 : ¬ flen (rstep x.s x.begR.f ⟨0, 14, lastI x.got, 0, 0, false, 0⟩).1 x.f = 0) :
    Calls Try.prog 16 #[.pointer (some ⟨X, 0, none⟩)] w fun e w' => e = .returned (.bool true) ∧ RunX B p cb fb X (x.begR.conR ⟨0, 14, lastI x.got, 0, 0, false, 0⟩) w0 w' := by
  have hIb := inv_begR hI hR0
  obtain ⟨H', a', hI', htk, hend⟩ := inv_conR hIb hm rfl
  have hitl : x.items.length ≤ 2000 := by rw [hI.il]; have := hI.HT; omega
  have hpul : x.pushed.length ≤ 2000 := by have := hI.pm; omega
  have hgol : x.got.length ≤ 2000 := by have := hI.gl; omega
  have hlal : x.lags.length = x.got.length := hI.gl.1.symm
  have hlg := hI.lg
  have hend2 : x.ended ≤ 2000 := by have := hI.pl; omega
  have hHT0 := hI'.HT
  obtain ⟨lv, vp, vi, vg, vl, pb, rb, hR⟩ := hX
  rw [hR0] at hR
  obtain ⟨s1, r1, ho⟩ : ∃ s1 r1, rstep x.s x.begR.f ⟨0, 14, lastI x.got, 0, 0, false, 0⟩ = (s1, r1) := ⟨_, _, rfl⟩
  have hrf : x.f.receiving = false := by rw [hI.fpr.2, hR0]; rfl
  have htk1 : (0 : Nat) + 1 ≤ 4 := by omega
  obtain ⟨Ap, cp, rfl, _⟩ := own_slice hR.rp
  obtain ⟨Ai, ci, rfl, _⟩ := own_slice hR.ri
  obtain ⟨Ag, cg, rfl, _⟩ := own_slice hR.rg
  have hz : r1.ph = 15 := by
    have : (rstep x.s x.begR.f ⟨0, 14, lastI x.got, 0, 0, false, 0⟩).2.ph = 15 := by unfold rstep; rw [if_pos rfl]
    rw [ho] at this
    exact this
  have hbn : (r1.ph == 0) = false := by rw [beq_eq_false_iff_ne]; omega
  have hbt : decide ((0 : Int) + 1 ≤ 4) = true := decide_eq_true (by omega)
  rw [ho] at hfl0
  obtain ⟨fl, hflen⟩ : ∃ fl : Nat, flen s1 x.f = fl := ⟨_, rfl⟩
  have hflz : fl ≠ 0 := by rw [← hflen]; exact hfl0
  have hflb : ((fl : Int) == 0) = false := by rw [beq_eq_false_iff_ne]; omega
  have HiF := hid hflen
  have Hfz := hid hflz
  have HzE := hid hz
  have HiH : Hid (cHead s1 (x.begR.f.rcv (r1.ph != 0)) = (H' : Nat)) := hid (by have := hI'.hH; unfold Xs.conR Xs.stR at this; rw [show x.begR.s = x.s from rfl, ho] at this; simpa [hz] using this)
  have HiT : Hid (cTail s1 (x.begR.f.rcv (r1.ph != 0)) = (T : Nat)) := hid (by have := hI'.hT; unfold Xs.conR Xs.stR at this; rw [show x.begR.s = x.s from rfl, ho] at this; simpa [hz] using this)
  clear hz hflen hflz hfl0
  have x0 : w.cell? ⟨X, 0, none⟩ = some (.pointer (some ⟨fb, 0, none⟩)) := hR.x.cell 0
  have gx0 := hR.x.free 0
  have x2 : w.cell? ⟨X, 2, none⟩ = some (.pointer none) := hR.x.cell 2
  have gx2 := hR.x.free 2
  have x4 : w.cell? ⟨X, 4, none⟩ = some (.slice Ap x.pushed.length cp) := hR.x.cell 4
  have gx4 := hR.x.free 4
  have x6 : w.cell? ⟨X, 6, none⟩ = some (.int .i64 x.ended) := hR.x.cell 6
  have gx6 := hR.x.free 6
  have x10 : w.cell? ⟨X, 10, none⟩ = some (.int .i64 x.takes) := hR.x.cell 10
  have gx10 := hR.x.free 10
  have x12 : w.cell? ⟨X, 12, none⟩ = some (.int .i64 x.looked) := hR.x.cell 12
  have gx12 := hR.x.free 12
  have x13 : w.cell? ⟨X, 13, none⟩ = some (.bool x.clean) := hR.x.cell 13
  have gx13 := hR.x.free 13
  have x17 : w.cell? ⟨X, 17, none⟩ = some (.bool true) := hR.x.cell 17
  have gx17 := hR.x.free 17
  have x18 : w.cell? ⟨X, 18, none⟩ = some (.bool true) := hR.x.cell 18
  have gx18 := hR.x.free 18
  have x7 : w.cell? ⟨X, 7, none⟩ = some (.slice Ag x.got.length cg) := hR.x.cell 7
  have HR := hid hR
  have Ho := hid ho
  have HlG := hid hlal
  have HRF := hid hrf
  clear hrf
  have HI' := hid hI'
  have Hend := hid hend
  have HR0 := hid hR0
  clear hR ho hI hI' hend hR0 htk hlal hIb
  go_enter Try.func16, Try.ntmps16
  go_wp2_with fail
  refine Mix.wp_region_mix (fun _ => True) (fun i => ([0, 0, 0, 0, 0, 0, 2, 0, 0, 0, 0, 0] : List Nat).getD i 0) [0, 1, 2, 3, 4, 5, 6, 7, 8, 9, 10, 11] (by kernel_rfl) (by kernel_rfl) ?_
  repeat (refine Mix.mix_q (by simp only [List.getElem?_toArray, List.getElem?_cons_zero, List.getElem?_cons_succ]; exact rfl) rfl ?_; go_big_quiet_step ((go_at_call 18; exact last_q B X _ x.got _ x7 HR.out.rg (by omega) _)); refine wpQuiet_nil ?_)
  refine Mix.mix_e (by simp only [List.getElem?_toArray, List.getElem?_cons_zero, List.getElem?_cons_succ]; exact rfl) rfl fun W1 hW1 => ?_
  obtain ⟨n1, rfl⟩ := hW1
  go_wp2_with fail
  refine (frecv_ok B p cb fb lv x.s x.f _ (HR.out.drewN n1).fm 0 (lastI x.got) ⟨by decide, by decide⟩ HRF.out).mono ?_
  rintro e w1 ⟨rb, rfl, hf1, hq1, hc1, hqb⟩
  have hR1 := ((HR.out.drewN n1).fed hf1 hc1).setR (r := ⟨0, 14, lastI x.got, 0, 0, false, 0⟩) hq1 (Nat.le_trans (HR.out.drewN n1).bz hqb)
  clear hf1 hq1 hc1 x7
  clear x0 gx0 x2 gx2 x4 gx4 x6 gx6 x10 gx10 x12 gx12 x13 gx13 x17 gx17 x18 gx18
  have x0 : w1.cell? ⟨X, 0, none⟩ = some (.pointer (some ⟨fb, 0, none⟩)) := hR1.x.cell 0
  have gx0 := hR1.x.free 0
  have x2 : w1.cell? ⟨X, 2, none⟩ = some (.pointer none) := hR1.x.cell 2
  have gx2 := hR1.x.free 2
  have x4 : w1.cell? ⟨X, 4, none⟩ = some (.slice Ap x.pushed.length cp) := hR1.x.cell 4
  have gx4 := hR1.x.free 4
  have x6 : w1.cell? ⟨X, 6, none⟩ = some (.int .i64 x.ended) := hR1.x.cell 6
  have gx6 := hR1.x.free 6
  have x10 : w1.cell? ⟨X, 10, none⟩ = some (.int .i64 x.takes) := hR1.x.cell 10
  have gx10 := hR1.x.free 10
  have x12 : w1.cell? ⟨X, 12, none⟩ = some (.int .i64 x.looked) := hR1.x.cell 12
  have gx12 := hR1.x.free 12
  have x13 : w1.cell? ⟨X, 13, none⟩ = some (.bool x.clean) := hR1.x.cell 13
  have gx13 := hR1.x.free 13
  have x17 : w1.cell? ⟨X, 17, none⟩ = some (.bool true) := hR1.x.cell 17
  have gx17 := hR1.x.free 17
  have x18 : w1.cell? ⟨X, 18, none⟩ = some (.bool true) := hR1.x.cell 18
  have gx18 := hR1.x.free 18
  have HRa := hid hR1
  clear hR1
  go_wp2_with fail
  repeat (refine Mix.mix_q (by simp only [List.getElem?_toArray, List.getElem?_cons_zero, List.getElem?_cons_succ]; exact rfl) rfl ?_; go_big_quiet_step (fail); refine wpQuiet_nil ?_)
  intro n2
  have HRb := hid (HRa.out.drewN n2)
  go_wp2_with fail
  refine calls_world fun w3 hw3 => ?_
  have hR3 := ((HRb.out.put 2 (.pointer (some ⟨rb, 0, none⟩))).put 10 (.int .i64 0))
  rw [← hw3] at hR3
  clear x0 gx0 x2 gx2 x4 gx4 x6 gx6 x10 gx10 x12 gx12 x13 gx13 x17 gx17 x18 gx18
  clear hw3
  have x0 : w3.cell? ⟨X, 0, none⟩ = some (.pointer (some ⟨fb, 0, none⟩)) := hR3.x.cell 0
  have gx0 := hR3.x.free 0
  have x2 : w3.cell? ⟨X, 2, none⟩ = some (.pointer (some ⟨rb, 0, none⟩)) := hR3.x.cell 2
  have gx2 := hR3.x.free 2
  have x4 : w3.cell? ⟨X, 4, none⟩ = some (.slice Ap x.pushed.length cp) := hR3.x.cell 4
  have gx4 := hR3.x.free 4
  have x6 : w3.cell? ⟨X, 6, none⟩ = some (.int .i64 x.ended) := hR3.x.cell 6
  have gx6 := hR3.x.free 6
  have x10 : w3.cell? ⟨X, 10, none⟩ = some (.int .i64 0) := hR3.x.cell 10
  have gx10 := hR3.x.free 10
  have x12 : w3.cell? ⟨X, 12, none⟩ = some (.int .i64 x.looked) := hR3.x.cell 12
  have gx12 := hR3.x.free 12
  have x13 : w3.cell? ⟨X, 13, none⟩ = some (.bool x.clean) := hR3.x.cell 13
  have gx13 := hR3.x.free 13
  have x17 : w3.cell? ⟨X, 17, none⟩ = some (.bool true) := hR3.x.cell 17
  have gx17 := hR3.x.free 17
  have x18 : w3.cell? ⟨X, 18, none⟩ = some (.bool true) := hR3.x.cell 18
  have gx18 := hR3.x.free 18
  have HR3 := hid hR3
  clear hR3
  refine (rstep_any B p cb fb rb lv x.s x.begR.f ⟨0, 14, lastI x.got, 0, 0, false, 0⟩ w3 HR3.out.fm (HR3.out.rr rb _ rfl).1 ⟨by show (0 : Int) ≤ 0; decide, by show (0 : Int) < 16; decide⟩ (by omega) HR3.out.bz (.inl rfl)).mono ?_
  rw [Ho.out]
  rintro e wa ⟨rfl, lv1, hfa, hra, hca, hya⟩
  have hRa := HR3.out.received rfl hfa hra hca
  clear hfa hra hca hya
  clear x0 gx0 x2 gx2 x4 gx4 x6 gx6 x10 gx10 x12 gx12 x13 gx13 x17 gx17 x18 gx18
  have x0 : wa.cell? ⟨X, 0, none⟩ = some (.pointer (some ⟨fb, 0, none⟩)) := hRa.x.cell 0
  have gx0 := hRa.x.free 0
  have x2 : wa.cell? ⟨X, 2, none⟩ = some (.pointer (some ⟨rb, 0, none⟩)) := hRa.x.cell 2
  have gx2 := hRa.x.free 2
  have x4 : wa.cell? ⟨X, 4, none⟩ = some (.slice Ap x.pushed.length cp) := hRa.x.cell 4
  have gx4 := hRa.x.free 4
  have x6 : wa.cell? ⟨X, 6, none⟩ = some (.int .i64 x.ended) := hRa.x.cell 6
  have gx6 := hRa.x.free 6
  have x10 : wa.cell? ⟨X, 10, none⟩ = some (.int .i64 0) := hRa.x.cell 10
  have gx10 := hRa.x.free 10
  have x12 : wa.cell? ⟨X, 12, none⟩ = some (.int .i64 x.looked) := hRa.x.cell 12
  have gx12 := hRa.x.free 12
  have x13 : wa.cell? ⟨X, 13, none⟩ = some (.bool x.clean) := hRa.x.cell 13
  have gx13 := hRa.x.free 13
  have x17 : wa.cell? ⟨X, 17, none⟩ = some (.bool true) := hRa.x.cell 17
  have gx17 := hRa.x.free 17
  have x18 : wa.cell? ⟨X, 18, none⟩ = some (.bool true) := hRa.x.cell 18
  have gx18 := hRa.x.free 18
  have HRs := hid hRa
  clear hRa
  go_wp2_with fail
  refine calls_world fun wb hwb => ?_
  have hRb := ((HRs.out.put 10 (.int .i64 1)).put 18 (.bool true)).put 12 (.int .i64 x.ended)
  rw [← hwb] at hRb
  clear x0 gx0 x2 gx2 x4 gx4 x6 gx6 x10 gx10 x12 gx12 x13 gx13 x17 gx17 x18 gx18
  clear hwb
  have x0 : wb.cell? ⟨X, 0, none⟩ = some (.pointer (some ⟨fb, 0, none⟩)) := hRb.x.cell 0
  have gx0 := hRb.x.free 0
  have x2 : wb.cell? ⟨X, 2, none⟩ = some (.pointer (some ⟨rb, 0, none⟩)) := hRb.x.cell 2
  have gx2 := hRb.x.free 2
  have x4 : wb.cell? ⟨X, 4, none⟩ = some (.slice Ap x.pushed.length cp) := hRb.x.cell 4
  have gx4 := hRb.x.free 4
  have x6 : wb.cell? ⟨X, 6, none⟩ = some (.int .i64 x.ended) := hRb.x.cell 6
  have gx6 := hRb.x.free 6
  have x10 : wb.cell? ⟨X, 10, none⟩ = some (.int .i64 1) := hRb.x.cell 10
  have gx10 := hRb.x.free 10
  have x12 : wb.cell? ⟨X, 12, none⟩ = some (.int .i64 x.ended) := hRb.x.cell 12
  have gx12 := hRb.x.free 12
  have x13 : wb.cell? ⟨X, 13, none⟩ = some (.bool x.clean) := hRb.x.cell 13
  have gx13 := hRb.x.free 13
  have x17 : wb.cell? ⟨X, 17, none⟩ = some (.bool true) := hRb.x.cell 17
  have gx17 := hRb.x.free 17
  have x18 : wb.cell? ⟨X, 18, none⟩ = some (.bool true) := hRb.x.cell 18
  have gx18 := hRb.x.free 18
  have HRc := hid hRb
  clear hRb
  refine (flist_any B p cb fb _ s1 _ _ HRc.out.fm H' T HiH.out HiT.out (by omega) (by omega)).mono ?_
  rintro e wd ⟨v4, rfl, hrow4, hc4⟩
  rw [flist_length, show flen s1 (x.begR.f.rcv (r1.ph != 0)) = flen s1 x.f from rfl, HiF.out] at hrow4
  obtain ⟨a4, c4, rfl, _⟩ := own_slice hrow4
  have hRd := HRc.out.keep hc4
  clear x0 gx0 x2 gx2 x4 gx4 x6 gx6 x10 gx10 x12 gx12 x13 gx13 x17 gx17 x18 gx18
  have x0 : wd.cell? ⟨X, 0, none⟩ = some (.pointer (some ⟨fb, 0, none⟩)) := hRd.x.cell 0
  have gx0 := hRd.x.free 0
  have x2 : wd.cell? ⟨X, 2, none⟩ = some (.pointer (some ⟨rb, 0, none⟩)) := hRd.x.cell 2
  have gx2 := hRd.x.free 2
  have x4 : wd.cell? ⟨X, 4, none⟩ = some (.slice Ap x.pushed.length cp) := hRd.x.cell 4
  have gx4 := hRd.x.free 4
  have x6 : wd.cell? ⟨X, 6, none⟩ = some (.int .i64 x.ended) := hRd.x.cell 6
  have gx6 := hRd.x.free 6
  have x10 : wd.cell? ⟨X, 10, none⟩ = some (.int .i64 1) := hRd.x.cell 10
  have gx10 := hRd.x.free 10
  have x12 : wd.cell? ⟨X, 12, none⟩ = some (.int .i64 x.ended) := hRd.x.cell 12
  have gx12 := hRd.x.free 12
  have x13 : wd.cell? ⟨X, 13, none⟩ = some (.bool x.clean) := hRd.x.cell 13
  have gx13 := hRd.x.free 13
  have x17 : wd.cell? ⟨X, 17, none⟩ = some (.bool true) := hRd.x.cell 17
  have gx17 := hRd.x.free 17
  have x18 : wd.cell? ⟨X, 18, none⟩ = some (.bool true) := hRd.x.cell 18
  have gx18 := hRd.x.free 18
  have HRd := hid hRd
  clear hRd hc4 hrow4
  go_wp2_with fail
  go_ret
  refine ⟨rfl, ?_⟩
  have hz := HzE.out
  have hE : x.begR.conR ⟨0, 14, lastI x.got, 0, 0, false, 0⟩ = { x.begR with s := s1, f := x.begR.f.rcv (r1.ph != 0), R := some r1, takes := 0 + 1, looked := x.ended, clean := false } := by
    unfold Xs.conR Xs.stR
    rw [show x.begR.s = x.s from rfl, Ho.out]
    have hn0 : ¬ r1.ph = 0 := by omega
    have hfe : flen s1 x.begR.f = fl := HiF.out
    have hcl : (decide (flen s1 x.begR.f = 0) && decide (cLag s1 x.begR.f = 0)) = false := by
      rw [hfe]
      have := Hfz.out
      simp [this]
    simp only [hn0, if_false, if_true, hcl]
    try rfl
  rw [hE]
  exact runX_mk (HRd.out.put 13 (.bool (false))) pb rb rfl rfl rfl rfl rfl rfl rfl rfl (by rfl)

theorem con_some (B p cb fb X : Nat) (x : Xs) (m H T a : Nat) (w0 w : World) (r : Rd) (hR0 : x.R = some r) (hI : Inv x m H T a) (hm : m ≤ 1000) (hX : RunX B p cb fb X x w0 w) :
    Calls Try.prog 16 #[.pointer (some ⟨X, 0, none⟩)] w fun e w' => e = .returned (.bool true) ∧ RunX B p cb fb X (x.conR r) w0 w' := by
  by_cases h14 : r.ph = 14
  · by_cases hf : flen (rstep x.s x.f r).1 x.f = 0
    · exact con_14a B p cb fb X x m H T a w0 w r hR0 hI hm hX h14 hf
    · exact con_14b B p cb fb X x m H T a w0 w r hR0 hI hm hX h14 hf
  · by_cases hz : (rstep x.s x.f r).2.ph = 0
    · obtain ⟨H', a', hI', htk, hend⟩ := inv_conR hI hm hR0
      have elk : (x.stR r).looked = x.looked := by simp [Xs.stR, h14]
      have ecl : (x.stR r).clean = x.clean := by simp [Xs.stR, h14]
      rcases hend hz with ⟨he, hG⟩ | ⟨he, hc, hv, hl, hk⟩
      · exact con_got B p cb fb X x m H T a w0 w r hR0 hI hm hX h14 hz he hG
      · rw [elk] at hk
        rw [ecl] at hc
        rcases hk with hk | ⟨k1, k2, k3⟩
        · exact con_e0 B p cb fb X x m H T a w0 w r hR0 hI hm hX h14 hz he hv hl hc hk
        · exact con_e1 B p cb fb X x m H T a w0 w r hR0 hI hm hX h14 hz he hv hl hc k1 k2 k3
    · exact con_nx B p cb fb X x m H T a w0 w r hR0 hI hm hX h14 hz
theorem con_none (B p cb fb X : Nat) (x : Xs) (m H T a : Nat) (w0 w : World) (hR0 : x.R = none) (hI : Inv x m H T a) (hm : m ≤ 1000) (hX : RunX B p cb fb X x w0 w) :
    Calls Try.prog 16 #[.pointer (some ⟨X, 0, none⟩)] w fun e w' => e = .returned (.bool true) ∧ RunX B p cb fb X (x.begR.conR ⟨0, 14, lastI x.got, 0, 0, false, 0⟩) w0 w' := by
  by_cases hf : flen (rstep x.s x.begR.f ⟨0, 14, lastI x.got, 0, 0, false, 0⟩).1 x.f = 0
  · exact con_bega B p cb fb X x m H T a w0 w hR0 hI hm hX hf
  · exact con_begb B p cb fb X x m H T a w0 w hR0 hI hm hX hf
end Go.Proofs.Ytonjbofdmmnpdaa
