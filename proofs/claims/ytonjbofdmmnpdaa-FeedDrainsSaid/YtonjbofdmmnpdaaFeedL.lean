/- The feed's run: consume. -/
import Derived.Test.YtonjbofdmmnpdaaFeedK
namespace Go.Proofs.Ytonjbofdmmnpdaa
open Go.RowKit
set_option linter.unusedVariables false
set_option linter.unusedSimpArgs false
set_option linter.unusedSectionVars false

theorem last_q (B X : Nat) (vg : Value) (go : List Int) (w : World) (h7 : w.cell? ⟨X, 7, none⟩ = some vg) (hr : w.ownsRow B 35 1 vg go.length (u64V go)) (hn : go.length ≤ 100000) (k : Nat) :
    Calls Try.prog 18 #[.pointer (some ⟨X, 0, none⟩)] (w.drewN k) fun e w'' => e = .returned (.int .u64 (lastI go)) ∧ ∃ m, w'' = w.drewN m := by
  have hb : (Ch (fun _ => False) w (w.drewN k)) := (Ch.refl _ w).drewN k
  refine Calls.quiet_of (last_any B X vg go (w.drewN k) ?_ (hb.own hr (fun _ _ => id)) hn)
  rw [← h7]; rfl

set_option maxRecDepth 100000 in
set_option maxHeartbeats 2000000 in
theorem con_nx (B p cb fb X : Nat) (x : Xs) (m H T a : Nat) (w0 w : World) (r : Rd) (hR0 : x.R = some r) (hI : Inv x m H T a) (hm : m ≤ 1000) (hX : RunX B p cb fb X x w0 w) (h14 : r.ph ≠ 14) (hz : (rstep x.s x.f r).2.ph ≠ 0) :
    Calls Try.prog 16 #[.pointer (some ⟨X, 0, none⟩)] w fun e w' => e = .returned (.bool true) ∧ RunX B p cb fb X (x.conR r) w0 w' := by
  obtain ⟨H', a', hI', htk, hend⟩ := inv_conR hI hm hR0
  have hitl : x.items.length ≤ 2000 := by rw [hI.il]; have := hI.HT; omega
  have hpul : x.pushed.length ≤ 2000 := by have := hI.pm; omega
  have hgol : x.got.length ≤ 2000 := by have := hI.gl; omega
  have hlal : x.lags.length = x.got.length := hI.gl.1.symm
  have hlg := hI.lg
  have hend2 : x.ended ≤ 2000 := by have := hI.pl; omega
  have hHT0 := hI'.HT
  obtain ⟨lv, vp, vi, vg, vl, pb, rb, hR⟩ := hX
  rw [hR0] at hR
  obtain ⟨s1, r1, ho⟩ : ∃ s1 r1, rstep x.s x.f r = (s1, r1) := ⟨_, _, rfl⟩
  have hrt := (hI.cons r hR0).t
  have hrp := (hI.cons r hR0).ph
  have htk1 : x.takes + 1 ≤ 4 := htk
  obtain ⟨Ap, cp, rfl, _⟩ := own_slice hR.rp
  obtain ⟨Ai, ci, rfl, _⟩ := own_slice hR.ri
  obtain ⟨Ag, cg, rfl, _⟩ := own_slice hR.rg
  have hb14 : (r.ph == 14) = false := by rw [beq_eq_false_iff_ne]; exact h14
  rw [ho] at hz
  have hbn : (r1.ph == 0) = false := by rw [beq_eq_false_iff_ne]; exact hz
  have hbt : decide ((x.takes : Int) + 1 ≤ 4) = true := decide_eq_true (by omega)
  have x0 : w.cell? ⟨X, 0, none⟩ = some (.pointer (some ⟨fb, 0, none⟩)) := hR.x.cell 0
  have gx0 := hR.x.free 0
  have x2 : w.cell? ⟨X, 2, none⟩ = some (.pointer (some ⟨rb, 0, none⟩)) := hR.x.cell 2
  have gx2 := hR.x.free 2
  have x4 : w.cell? ⟨X, 4, none⟩ = some (.slice Ap x.pushed.length cp) := hR.x.cell 4
  have gx4 := hR.x.free 4
  have x6 : w.cell? ⟨X, 6, none⟩ = some (.int .i64 x.ended) := hR.x.cell 6
  have gx6 := hR.x.free 6
  have x10 : w.cell? ⟨X, 10, none⟩ = some (.int .i64 x.takes) := hR.x.cell 10
  have gx10 := hR.x.free 10
  have x12 : w.cell? ⟨X, 12, none⟩ = some (.int .i64 x.looked) := hR.x.cell 12
  have gx12 := hR.x.free 12
  have x13 : w.cell? ⟨X, 13, none⟩ = some (.bool x.clean) := hR.x.cell 13
  have gx13 := hR.x.free 13
  have x17 : w.cell? ⟨X, 17, none⟩ = some (.bool true) := hR.x.cell 17
  have gx17 := hR.x.free 17
  have x18 : w.cell? ⟨X, 18, none⟩ = some (.bool true) := hR.x.cell 18
  have gx18 := hR.x.free 18
  have x7 : w.cell? ⟨X, 7, none⟩ = some (.slice Ag x.got.length cg) := hR.x.cell 7
  have HR := hid hR
  have Ho := hid ho
  have HlG := hid hlal
  have Hrt := hid hrt
  have Hrp := hid hrp
  clear hrt hrp
  have HI' := hid hI'
  have Hend := hid hend
  have HR0 := hid hR0
  clear hR ho hI hI' hend hR0 htk hlal
  go_enter Try.func16, Try.ntmps16
  go_wp2_with fail
  refine (rstep_any B p cb fb rb lv x.s x.f r w HR.out.fm (HR.out.rr rb _ rfl).1 ⟨by rw [Hrt.out]; decide, by rw [Hrt.out]; decide⟩ (by omega) HR.out.bz Hrp.out).mono ?_
  rw [Ho.out]
  rintro e wa ⟨rfl, lv1, hfa, hra, hca, hya⟩
  have hRa := HR.out.received rfl hfa hra hca
  clear hfa hra hca hya
  clear x0 gx0 x2 gx2 x4 gx4 x6 gx6 x10 gx10 x12 gx12 x13 gx13 x17 gx17 x18 gx18
  have x0 : wa.cell? ⟨X, 0, none⟩ = some (.pointer (some ⟨fb, 0, none⟩)) := hRa.x.cell 0
  have gx0 := hRa.x.free 0
  have x2 : wa.cell? ⟨X, 2, none⟩ = some (.pointer (some ⟨rb, 0, none⟩)) := hRa.x.cell 2
  have gx2 := hRa.x.free 2
  have x4 : wa.cell? ⟨X, 4, none⟩ = some (.slice Ap x.pushed.length cp) := hRa.x.cell 4
  have gx4 := hRa.x.free 4
  have x6 : wa.cell? ⟨X, 6, none⟩ = some (.int .i64 x.ended) := hRa.x.cell 6
  have gx6 := hRa.x.free 6
  have x10 : wa.cell? ⟨X, 10, none⟩ = some (.int .i64 x.takes) := hRa.x.cell 10
  have gx10 := hRa.x.free 10
  have x12 : wa.cell? ⟨X, 12, none⟩ = some (.int .i64 x.looked) := hRa.x.cell 12
  have gx12 := hRa.x.free 12
  have x13 : wa.cell? ⟨X, 13, none⟩ = some (.bool x.clean) := hRa.x.cell 13
  have gx13 := hRa.x.free 13
  have x17 : wa.cell? ⟨X, 17, none⟩ = some (.bool true) := hRa.x.cell 17
  have gx17 := hRa.x.free 17
  have x18 : wa.cell? ⟨X, 18, none⟩ = some (.bool true) := hRa.x.cell 18
  have gx18 := hRa.x.free 18
  have HRs := hid hRa
  clear hRa
  go_wp2_with fail
  go_ret
  refine ⟨rfl, ?_⟩
  have hE : x.conR r = { x with s := s1, f := x.f.rcv (r1.ph != 0), R := some r1, takes := x.takes + 1 } := by
    unfold Xs.conR Xs.stR
    rw [Ho.out]
    simp only [hz, h14, if_false]
  rw [hE]
  exact runX_mk ((HRs.out.put 10 (.int .i64 ((x.takes : Int) + 1))).put 18 (.bool true)) pb rb rfl rfl rfl rfl rfl rfl rfl rfl (by rfl)

set_option maxRecDepth 100000 in
set_option maxHeartbeats 2000000 in
theorem con_14a (B p cb fb X : Nat) (x : Xs) (m H T a : Nat) (w0 w : World) (r : Rd) (hR0 : x.R = some r) (hI : Inv x m H T a) (hm : m ≤ 1000) (hX : RunX B p cb fb X x w0 w) (h14 : r.ph = 14) (hfl0 : flen (rstep x.s x.f r).1 x.f = 0) :
    Calls Try.prog 16 #[.pointer (some ⟨X, 0, none⟩)] w fun e w' => e = .returned (.bool true) ∧ RunX B p cb fb X (x.conR r) w0 w' := by
  obtain ⟨H', a', hI', htk, hend⟩ := inv_conR hI hm hR0
  have hitl : x.items.length ≤ 2000 := by rw [hI.il]; have := hI.HT; omega
  have hpul : x.pushed.length ≤ 2000 := by have := hI.pm; omega
  have hgol : x.got.length ≤ 2000 := by have := hI.gl; omega
  have hlal : x.lags.length = x.got.length := hI.gl.1.symm
  have hlg := hI.lg
  have hend2 : x.ended ≤ 2000 := by have := hI.pl; omega
  have hHT0 := hI'.HT
  obtain ⟨lv, vp, vi, vg, vl, pb, rb, hR⟩ := hX
  rw [hR0] at hR
  obtain ⟨s1, r1, ho⟩ : ∃ s1 r1, rstep x.s x.f r = (s1, r1) := ⟨_, _, rfl⟩
  have hrt := (hI.cons r hR0).t
  have hrp := (hI.cons r hR0).ph
  have htk1 : x.takes + 1 ≤ 4 := htk
  obtain ⟨Ap, cp, rfl, _⟩ := own_slice hR.rp
  obtain ⟨Ai, ci, rfl, _⟩ := own_slice hR.ri
  obtain ⟨Ag, cg, rfl, _⟩ := own_slice hR.rg
  have hb14 : (r.ph == 14) = true := by rw [beq_iff_eq]; exact h14
  have hz : r1.ph = 15 := by
    have : (rstep x.s x.f r).2.ph = 15 := by unfold rstep; rw [if_pos h14]
    rw [ho] at this
    exact this
  have hbn : (r1.ph == 0) = false := by rw [beq_eq_false_iff_ne]; omega
  have hbt : decide ((x.takes : Int) + 1 ≤ 4) = true := decide_eq_true (by omega)
  rw [ho] at hfl0
  obtain ⟨fl, hflen⟩ : ∃ fl : Nat, flen s1 x.f = fl := ⟨_, rfl⟩
  have hflz : fl = 0 := by rw [← hflen]; exact hfl0
  have hflb : ((fl : Int) == 0) = true := by rw [beq_iff_eq]; omega
  have HiF := hid hflen
  have Hfz := hid hflz
  have HzE := hid hz
  have HiH : Hid (cHead s1 (x.f.rcv (r1.ph != 0)) = (H' : Nat)) := hid (by have := hI'.hH; unfold Xs.conR Xs.stR at this; rw [show x.s = x.s from rfl, ho] at this; simpa [hz] using this)
  have HiT : Hid (cTail s1 (x.f.rcv (r1.ph != 0)) = (T : Nat)) := hid (by have := hI'.hT; unfold Xs.conR Xs.stR at this; rw [show x.s = x.s from rfl, ho] at this; simpa [hz] using this)
  clear hz hflen hflz hfl0
  have x0 : w.cell? ⟨X, 0, none⟩ = some (.pointer (some ⟨fb, 0, none⟩)) := hR.x.cell 0
  have gx0 := hR.x.free 0
  have x2 : w.cell? ⟨X, 2, none⟩ = some (.pointer (some ⟨rb, 0, none⟩)) := hR.x.cell 2
  have gx2 := hR.x.free 2
  have x4 : w.cell? ⟨X, 4, none⟩ = some (.slice Ap x.pushed.length cp) := hR.x.cell 4
  have gx4 := hR.x.free 4
  have x6 : w.cell? ⟨X, 6, none⟩ = some (.int .i64 x.ended) := hR.x.cell 6
  have gx6 := hR.x.free 6
  have x10 : w.cell? ⟨X, 10, none⟩ = some (.int .i64 x.takes) := hR.x.cell 10
  have gx10 := hR.x.free 10
  have x12 : w.cell? ⟨X, 12, none⟩ = some (.int .i64 x.looked) := hR.x.cell 12
  have gx12 := hR.x.free 12
  have x13 : w.cell? ⟨X, 13, none⟩ = some (.bool x.clean) := hR.x.cell 13
  have gx13 := hR.x.free 13
  have x17 : w.cell? ⟨X, 17, none⟩ = some (.bool true) := hR.x.cell 17
  have gx17 := hR.x.free 17
  have x18 : w.cell? ⟨X, 18, none⟩ = some (.bool true) := hR.x.cell 18
  have gx18 := hR.x.free 18
  have x7 : w.cell? ⟨X, 7, none⟩ = some (.slice Ag x.got.length cg) := hR.x.cell 7
  have HR := hid hR
  have Ho := hid ho
  have HlG := hid hlal
  have Hrt := hid hrt
  have Hrp := hid hrp
  clear hrt hrp
  have HI' := hid hI'
  have Hend := hid hend
  have HR0 := hid hR0
  clear hR ho hI hI' hend hR0 htk hlal
  go_enter Try.func16, Try.ntmps16
  go_wp2_with fail
  refine (rstep_any B p cb fb rb lv x.s x.f r w HR.out.fm (HR.out.rr rb _ rfl).1 ⟨by rw [Hrt.out]; decide, by rw [Hrt.out]; decide⟩ (by omega) HR.out.bz Hrp.out).mono ?_
  rw [Ho.out]
  rintro e wa ⟨rfl, lv1, hfa, hra, hca, hya⟩
  have hRa := HR.out.received rfl hfa hra hca
  clear hfa hra hca hya
  clear x0 gx0 x2 gx2 x4 gx4 x6 gx6 x10 gx10 x12 gx12 x13 gx13 x17 gx17 x18 gx18
  have x0 : wa.cell? ⟨X, 0, none⟩ = some (.pointer (some ⟨fb, 0, none⟩)) := hRa.x.cell 0
  have gx0 := hRa.x.free 0
  have x2 : wa.cell? ⟨X, 2, none⟩ = some (.pointer (some ⟨rb, 0, none⟩)) := hRa.x.cell 2
  have gx2 := hRa.x.free 2
  have x4 : wa.cell? ⟨X, 4, none⟩ = some (.slice Ap x.pushed.length cp) := hRa.x.cell 4
  have gx4 := hRa.x.free 4
  have x6 : wa.cell? ⟨X, 6, none⟩ = some (.int .i64 x.ended) := hRa.x.cell 6
  have gx6 := hRa.x.free 6
  have x10 : wa.cell? ⟨X, 10, none⟩ = some (.int .i64 x.takes) := hRa.x.cell 10
  have gx10 := hRa.x.free 10
  have x12 : wa.cell? ⟨X, 12, none⟩ = some (.int .i64 x.looked) := hRa.x.cell 12
  have gx12 := hRa.x.free 12
  have x13 : wa.cell? ⟨X, 13, none⟩ = some (.bool x.clean) := hRa.x.cell 13
  have gx13 := hRa.x.free 13
  have x17 : wa.cell? ⟨X, 17, none⟩ = some (.bool true) := hRa.x.cell 17
  have gx17 := hRa.x.free 17
  have x18 : wa.cell? ⟨X, 18, none⟩ = some (.bool true) := hRa.x.cell 18
  have gx18 := hRa.x.free 18
  have HRs := hid hRa
  clear hRa
  go_wp2_with fail
  refine calls_world fun wb hwb => ?_
  have hRb := ((HRs.out.put 10 (.int .i64 ((x.takes : Int) + 1))).put 18 (.bool true)).put 12 (.int .i64 x.ended)
  rw [← hwb] at hRb
  clear x0 gx0 x2 gx2 x4 gx4 x6 gx6 x10 gx10 x12 gx12 x13 gx13 x17 gx17 x18 gx18
  clear hwb
  have x0 : wb.cell? ⟨X, 0, none⟩ = some (.pointer (some ⟨fb, 0, none⟩)) := hRb.x.cell 0
  have gx0 := hRb.x.free 0
  have x2 : wb.cell? ⟨X, 2, none⟩ = some (.pointer (some ⟨rb, 0, none⟩)) := hRb.x.cell 2
  have gx2 := hRb.x.free 2
  have x4 : wb.cell? ⟨X, 4, none⟩ = some (.slice Ap x.pushed.length cp) := hRb.x.cell 4
  have gx4 := hRb.x.free 4
  have x6 : wb.cell? ⟨X, 6, none⟩ = some (.int .i64 x.ended) := hRb.x.cell 6
  have gx6 := hRb.x.free 6
  have x10 : wb.cell? ⟨X, 10, none⟩ = some (.int .i64 ((x.takes : Int) + 1)) := hRb.x.cell 10
  have gx10 := hRb.x.free 10
  have x12 : wb.cell? ⟨X, 12, none⟩ = some (.int .i64 x.ended) := hRb.x.cell 12
  have gx12 := hRb.x.free 12
  have x13 : wb.cell? ⟨X, 13, none⟩ = some (.bool x.clean) := hRb.x.cell 13
  have gx13 := hRb.x.free 13
  have x17 : wb.cell? ⟨X, 17, none⟩ = some (.bool true) := hRb.x.cell 17
  have gx17 := hRb.x.free 17
  have x18 : wb.cell? ⟨X, 18, none⟩ = some (.bool true) := hRb.x.cell 18
  have gx18 := hRb.x.free 18
  have HRc := hid hRb
  clear hRb
  refine (flist_any B p cb fb _ s1 _ _ HRc.out.fm H' T HiH.out HiT.out (by omega) (by omega)).mono ?_
  rintro e wd ⟨v4, rfl, hrow4, hc4⟩
  rw [flist_length, show flen s1 (x.f.rcv (r1.ph != 0)) = flen s1 x.f from rfl, HiF.out] at hrow4
  obtain ⟨a4, c4, rfl, _⟩ := own_slice hrow4
  have hRd := HRc.out.keep hc4
  clear x0 gx0 x2 gx2 x4 gx4 x6 gx6 x10 gx10 x12 gx12 x13 gx13 x17 gx17 x18 gx18
  have x0 : wd.cell? ⟨X, 0, none⟩ = some (.pointer (some ⟨fb, 0, none⟩)) := hRd.x.cell 0
  have gx0 := hRd.x.free 0
  have x2 : wd.cell? ⟨X, 2, none⟩ = some (.pointer (some ⟨rb, 0, none⟩)) := hRd.x.cell 2
  have gx2 := hRd.x.free 2
  have x4 : wd.cell? ⟨X, 4, none⟩ = some (.slice Ap x.pushed.length cp) := hRd.x.cell 4
  have gx4 := hRd.x.free 4
  have x6 : wd.cell? ⟨X, 6, none⟩ = some (.int .i64 x.ended) := hRd.x.cell 6
  have gx6 := hRd.x.free 6
  have x10 : wd.cell? ⟨X, 10, none⟩ = some (.int .i64 ((x.takes : Int) + 1)) := hRd.x.cell 10
  have gx10 := hRd.x.free 10
  have x12 : wd.cell? ⟨X, 12, none⟩ = some (.int .i64 x.ended) := hRd.x.cell 12
  have gx12 := hRd.x.free 12
  have x13 : wd.cell? ⟨X, 13, none⟩ = some (.bool x.clean) := hRd.x.cell 13
  have gx13 := hRd.x.free 13
  have x17 : wd.cell? ⟨X, 17, none⟩ = some (.bool true) := hRd.x.cell 17
  have gx17 := hRd.x.free 17
  have x18 : wd.cell? ⟨X, 18, none⟩ = some (.bool true) := hRd.x.cell 18
  have gx18 := hRd.x.free 18
  have HRd := hid hRd
  clear hRd hc4 hrow4
  go_wp2_with fail
  refine (flag_any B p cb fb _ s1 _ wd HRd.out.fm).mono ?_
  rintro e we ⟨rfl, rfl⟩
  go_wp2_with fail
  go_ret
  refine ⟨rfl, ?_⟩
  have hz := HzE.out
  have hE : x.conR r = { x with s := s1, f := x.f.rcv (r1.ph != 0), R := some r1, takes := x.takes + 1, looked := x.ended, clean := (cLag s1 x.f == 0) } := by
    unfold Xs.conR Xs.stR
    rw [show x.s = x.s from rfl, Ho.out]
    have hn0 : ¬ r1.ph = 0 := by omega
    have hfe : flen s1 x.f = fl := HiF.out
    have hcl : (decide (flen s1 x.f = 0) && decide (cLag s1 x.f = 0)) = (cLag s1 x.f == 0) := by
      rw [hfe]
      have := Hfz.out
      simp [this]; rfl
    simp only [hn0, h14, if_false, if_true, hcl]
    try rfl
  rw [hE]
  exact runX_mk (HRd.out.put 13 (.bool ((cLag s1 x.f == 0)))) pb rb rfl rfl rfl rfl rfl rfl rfl rfl (by rfl)

set_option maxRecDepth 100000 in
set_option maxHeartbeats 2000000 in
theorem con_14b (B p cb fb X : Nat) (x : Xs) (m H T a : Nat) (w0 w : World) (r : Rd) (hR0 : x.R = some r) (hI : Inv x m H T a) (hm : m ≤ 1000) (hX : RunX B p cb fb X x w0 w) (h14 : r.ph = 14) (hfl0 : ¬ flen (rstep x.s x.f r).1 x.f = 0) :
    Calls Try.prog 16 #[.pointer (some ⟨X, 0, none⟩)] w fun e w' => e = .returned (.bool true) ∧ RunX B p cb fb X (x.conR r) w0 w' := by
  obtain ⟨H', a', hI', htk, hend⟩ := inv_conR hI hm hR0
  have hitl : x.items.length ≤ 2000 := by rw [hI.il]; have := hI.HT; omega
  have hpul : x.pushed.length ≤ 2000 := by have := hI.pm; omega
  have hgol : x.got.length ≤ 2000 := by have := hI.gl; omega
  have hlal : x.lags.length = x.got.length := hI.gl.1.symm
  have hlg := hI.lg
  have hend2 : x.ended ≤ 2000 := by have := hI.pl; omega
  have hHT0 := hI'.HT
  obtain ⟨lv, vp, vi, vg, vl, pb, rb, hR⟩ := hX
  rw [hR0] at hR
  obtain ⟨s1, r1, ho⟩ : ∃ s1 r1, rstep x.s x.f r = (s1, r1) := ⟨_, _, rfl⟩
  have hrt := (hI.cons r hR0).t
  have hrp := (hI.cons r hR0).ph
  have htk1 : x.takes + 1 ≤ 4 := htk
  obtain ⟨Ap, cp, rfl, _⟩ := own_slice hR.rp
  obtain ⟨Ai, ci, rfl, _⟩ := own_slice hR.ri
  obtain ⟨Ag, cg, rfl, _⟩ := own_slice hR.rg
  have hb14 : (r.ph == 14) = true := by rw [beq_iff_eq]; exact h14
  have hz : r1.ph = 15 := by
    have : (rstep x.s x.f r).2.ph = 15 := by unfold rstep; rw [if_pos h14]
    rw [ho] at this
    exact this
  have hbn : (r1.ph == 0) = false := by rw [beq_eq_false_iff_ne]; omega
  have hbt : decide ((x.takes : Int) + 1 ≤ 4) = true := decide_eq_true (by omega)
  rw [ho] at hfl0
  obtain ⟨fl, hflen⟩ : ∃ fl : Nat, flen s1 x.f = fl := ⟨_, rfl⟩
  have hflz : fl ≠ 0 := by rw [← hflen]; exact hfl0
  have hflb : ((fl : Int) == 0) = false := by rw [beq_eq_false_iff_ne]; omega
  have HiF := hid hflen
  have Hfz := hid hflz
  have HzE := hid hz
  have HiH : Hid (cHead s1 (x.f.rcv (r1.ph != 0)) = (H' : Nat)) := hid (by have := hI'.hH; unfold Xs.conR Xs.stR at this; rw [show x.s = x.s from rfl, ho] at this; simpa [hz] using this)
  have HiT : Hid (cTail s1 (x.f.rcv (r1.ph != 0)) = (T : Nat)) := hid (by have := hI'.hT; unfold Xs.conR Xs.stR at this; rw [show x.s = x.s from rfl, ho] at this; simpa [hz] using this)
  clear hz hflen hflz hfl0
  have x0 : w.cell? ⟨X, 0, none⟩ = some (.pointer (some ⟨fb, 0, none⟩)) := hR.x.cell 0
  have gx0 := hR.x.free 0
  have x2 : w.cell? ⟨X, 2, none⟩ = some (.pointer (some ⟨rb, 0, none⟩)) := hR.x.cell 2
  have gx2 := hR.x.free 2
  have x4 : w.cell? ⟨X, 4, none⟩ = some (.slice Ap x.pushed.length cp) := hR.x.cell 4
  have gx4 := hR.x.free 4
  have x6 : w.cell? ⟨X, 6, none⟩ = some (.int .i64 x.ended) := hR.x.cell 6
  have gx6 := hR.x.free 6
  have x10 : w.cell? ⟨X, 10, none⟩ = some (.int .i64 x.takes) := hR.x.cell 10
  have gx10 := hR.x.free 10
  have x12 : w.cell? ⟨X, 12, none⟩ = some (.int .i64 x.looked) := hR.x.cell 12
  have gx12 := hR.x.free 12
  have x13 : w.cell? ⟨X, 13, none⟩ = some (.bool x.clean) := hR.x.cell 13
  have gx13 := hR.x.free 13
  have x17 : w.cell? ⟨X, 17, none⟩ = some (.bool true) := hR.x.cell 17
  have gx17 := hR.x.free 17
  have x18 : w.cell? ⟨X, 18, none⟩ = some (.bool true) := hR.x.cell 18
  have gx18 := hR.x.free 18
  have x7 : w.cell? ⟨X, 7, none⟩ = some (.slice Ag x.got.length cg) := hR.x.cell 7
  have HR := hid hR
  have Ho := hid ho
  have HlG := hid hlal
  have Hrt := hid hrt
  have Hrp := hid hrp
  clear hrt hrp
  have HI' := hid hI'
  have Hend := hid hend
  have HR0 := hid hR0
  clear hR ho hI hI' hend hR0 htk hlal
  go_enter Try.func16, Try.ntmps16
  go_wp2_with fail
  refine (rstep_any B p cb fb rb lv x.s x.f r w HR.out.fm (HR.out.rr rb _ rfl).1 ⟨by rw [Hrt.out]; decide, by rw [Hrt.out]; decide⟩ (by omega) HR.out.bz Hrp.out).mono ?_
  rw [Ho.out]
  rintro e wa ⟨rfl, lv1, hfa, hra, hca, hya⟩
  have hRa := HR.out.received rfl hfa hra hca
  clear hfa hra hca hya
  clear x0 gx0 x2 gx2 x4 gx4 x6 gx6 x10 gx10 x12 gx12 x13 gx13 x17 gx17 x18 gx18
  have x0 : wa.cell? ⟨X, 0, none⟩ = some (.pointer (some ⟨fb, 0, none⟩)) := hRa.x.cell 0
  have gx0 := hRa.x.free 0
  have x2 : wa.cell? ⟨X, 2, none⟩ = some (.pointer (some ⟨rb, 0, none⟩)) := hRa.x.cell 2
  have gx2 := hRa.x.free 2
  have x4 : wa.cell? ⟨X, 4, none⟩ = some (.slice Ap x.pushed.length cp) := hRa.x.cell 4
  have gx4 := hRa.x.free 4
  have x6 : wa.cell? ⟨X, 6, none⟩ = some (.int .i64 x.ended) := hRa.x.cell 6
  have gx6 := hRa.x.free 6
  have x10 : wa.cell? ⟨X, 10, none⟩ = some (.int .i64 x.takes) := hRa.x.cell 10
  have gx10 := hRa.x.free 10
  have x12 : wa.cell? ⟨X, 12, none⟩ = some (.int .i64 x.looked) := hRa.x.cell 12
  have gx12 := hRa.x.free 12
  have x13 : wa.cell? ⟨X, 13, none⟩ = some (.bool x.clean) := hRa.x.cell 13
  have gx13 := hRa.x.free 13
  have x17 : wa.cell? ⟨X, 17, none⟩ = some (.bool true) := hRa.x.cell 17
  have gx17 := hRa.x.free 17
  have x18 : wa.cell? ⟨X, 18, none⟩ = some (.bool true) := hRa.x.cell 18
  have gx18 := hRa.x.free 18
  have HRs := hid hRa
  clear hRa
  go_wp2_with fail
  refine calls_world fun wb hwb => ?_
  have hRb := ((HRs.out.put 10 (.int .i64 ((x.takes : Int) + 1))).put 18 (.bool true)).put 12 (.int .i64 x.ended)
  rw [← hwb] at hRb
  clear x0 gx0 x2 gx2 x4 gx4 x6 gx6 x10 gx10 x12 gx12 x13 gx13 x17 gx17 x18 gx18
  clear hwb
  have x0 : wb.cell? ⟨X, 0, none⟩ = some (.pointer (some ⟨fb, 0, none⟩)) := hRb.x.cell 0
  have gx0 := hRb.x.free 0
  have x2 : wb.cell? ⟨X, 2, none⟩ = some (.pointer (some ⟨rb, 0, none⟩)) := hRb.x.cell 2
  have gx2 := hRb.x.free 2
  have x4 : wb.cell? ⟨X, 4, none⟩ = some (.slice Ap x.pushed.length cp) := hRb.x.cell 4
  have gx4 := hRb.x.free 4
  have x6 : wb.cell? ⟨X, 6, none⟩ = some (.int .i64 x.ended) := hRb.x.cell 6
  have gx6 := hRb.x.free 6
  have x10 : wb.cell? ⟨X, 10, none⟩ = some (.int .i64 ((x.takes : Int) + 1)) := hRb.x.cell 10
  have gx10 := hRb.x.free 10
  have x12 : wb.cell? ⟨X, 12, none⟩ = some (.int .i64 x.ended) := hRb.x.cell 12
  have gx12 := hRb.x.free 12
  have x13 : wb.cell? ⟨X, 13, none⟩ = some (.bool x.clean) := hRb.x.cell 13
  have gx13 := hRb.x.free 13
  have x17 : wb.cell? ⟨X, 17, none⟩ = some (.bool true) := hRb.x.cell 17
  have gx17 := hRb.x.free 17
  have x18 : wb.cell? ⟨X, 18, none⟩ = some (.bool true) := hRb.x.cell 18
  have gx18 := hRb.x.free 18
  have HRc := hid hRb
  clear hRb
  refine (flist_any B p cb fb _ s1 _ _ HRc.out.fm H' T HiH.out HiT.out (by omega) (by omega)).mono ?_
  rintro e wd ⟨v4, rfl, hrow4, hc4⟩
  rw [flist_length, show flen s1 (x.f.rcv (r1.ph != 0)) = flen s1 x.f from rfl, HiF.out] at hrow4
  obtain ⟨a4, c4, rfl, _⟩ := own_slice hrow4
  have hRd := HRc.out.keep hc4
  clear x0 gx0 x2 gx2 x4 gx4 x6 gx6 x10 gx10 x12 gx12 x13 gx13 x17 gx17 x18 gx18
  have x0 : wd.cell? ⟨X, 0, none⟩ = some (.pointer (some ⟨fb, 0, none⟩)) := hRd.x.cell 0
  have gx0 := hRd.x.free 0
  have x2 : wd.cell? ⟨X, 2, none⟩ = some (.pointer (some ⟨rb, 0, none⟩)) := hRd.x.cell 2
  have gx2 := hRd.x.free 2
  have x4 : wd.cell? ⟨X, 4, none⟩ = some (.slice Ap x.pushed.length cp) := hRd.x.cell 4
  have gx4 := hRd.x.free 4
  have x6 : wd.cell? ⟨X, 6, none⟩ = some (.int .i64 x.ended) := hRd.x.cell 6
  have gx6 := hRd.x.free 6
  have x10 : wd.cell? ⟨X, 10, none⟩ = some (.int .i64 ((x.takes : Int) + 1)) := hRd.x.cell 10
  have gx10 := hRd.x.free 10
  have x12 : wd.cell? ⟨X, 12, none⟩ = some (.int .i64 x.ended) := hRd.x.cell 12
  have gx12 := hRd.x.free 12
  have x13 : wd.cell? ⟨X, 13, none⟩ = some (.bool x.clean) := hRd.x.cell 13
  have gx13 := hRd.x.free 13
  have x17 : wd.cell? ⟨X, 17, none⟩ = some (.bool true) := hRd.x.cell 17
  have gx17 := hRd.x.free 17
  have x18 : wd.cell? ⟨X, 18, none⟩ = some (.bool true) := hRd.x.cell 18
  have gx18 := hRd.x.free 18
  have HRd := hid hRd
  clear hRd hc4 hrow4
  go_wp2_with fail
  go_ret
  refine ⟨rfl, ?_⟩
  have hz := HzE.out
  have hE : x.conR r = { x with s := s1, f := x.f.rcv (r1.ph != 0), R := some r1, takes := x.takes + 1, looked := x.ended, clean := false } := by
    unfold Xs.conR Xs.stR
    rw [show x.s = x.s from rfl, Ho.out]
    have hn0 : ¬ r1.ph = 0 := by omega
    have hfe : flen s1 x.f = fl := HiF.out
    have hcl : (decide (flen s1 x.f = 0) && decide (cLag s1 x.f = 0)) = false := by
      rw [hfe]
      have := Hfz.out
      simp [this]
    simp only [hn0, h14, if_false, if_true, hcl]
    try rfl
  rw [hE]
  exact runX_mk (HRd.out.put 13 (.bool (false))) pb rb rfl rfl rfl rfl rfl rfl rfl rfl (by rfl)

set_option maxRecDepth 100000 in
set_option maxHeartbeats 2000000 in
theorem con_got (B p cb fb X : Nat) (x : Xs) (m H T a : Nat) (w0 w : World) (r : Rd) (hR0 : x.R = some r) (hI : Inv x m H T a) (hm : m ≤ 1000) (hX : RunX B p cb fb X x w0 w) (h14 : r.ph ≠ 14) (hz : (rstep x.s x.f r).2.ph = 0) (he : (rstep x.s x.f r).2.err = 0) (hG : GotF (x.stR r) (rstep x.s x.f r).2.value (rstep x.s x.f r).2.lagged) :
    Calls Try.prog 16 #[.pointer (some ⟨X, 0, none⟩)] w fun e w' => e = .returned (.bool true) ∧ RunX B p cb fb X (x.conR r) w0 w' := by
  obtain ⟨H', a', hI', htk, hend⟩ := inv_conR hI hm hR0
  have hitl : x.items.length ≤ 2000 := by rw [hI.il]; have := hI.HT; omega
  have hpul : x.pushed.length ≤ 2000 := by have := hI.pm; omega
  have hgol : x.got.length ≤ 2000 := by have := hI.gl; omega
  have hlal : x.lags.length = x.got.length := hI.gl.1.symm
  have hlg := hI.lg
  have hend2 : x.ended ≤ 2000 := by have := hI.pl; omega
  have hHT0 := hI'.HT
  obtain ⟨lv, vp, vi, vg, vl, pb, rb, hR⟩ := hX
  rw [hR0] at hR
  obtain ⟨s1, r1, ho⟩ : ∃ s1 r1, rstep x.s x.f r = (s1, r1) := ⟨_, _, rfl⟩
  have hrt := (hI.cons r hR0).t
  have hrp := (hI.cons r hR0).ph
  have htk1 : x.takes + 1 ≤ 4 := htk
  obtain ⟨Ap, cp, rfl, _⟩ := own_slice hR.rp
  obtain ⟨Ai, ci, rfl, _⟩ := own_slice hR.ri
  obtain ⟨Ag, cg, rfl, _⟩ := own_slice hR.rg
  have hb14 : (r.ph == 14) = false := by rw [beq_eq_false_iff_ne]; exact h14
  rw [ho] at hz
  have hbn : (r1.ph == 0) = true := by rw [beq_iff_eq]; exact hz
  have hbt : decide ((x.takes : Int) + 1 ≤ 4) = true := decide_eq_true (by omega)
  rw [ho] at he hG
  replace he : r1.err = 0 := he
  replace hz : r1.ph = 0 := hz
  have hbe : (r1.err != 0) = false := by simp [he]
  have HzE := hid hz
  have HeE := hid he
  have HG := hid hG
  clear hz he hG
  have x0 : w.cell? ⟨X, 0, none⟩ = some (.pointer (some ⟨fb, 0, none⟩)) := hR.x.cell 0
  have gx0 := hR.x.free 0
  have x2 : w.cell? ⟨X, 2, none⟩ = some (.pointer (some ⟨rb, 0, none⟩)) := hR.x.cell 2
  have gx2 := hR.x.free 2
  have x4 : w.cell? ⟨X, 4, none⟩ = some (.slice Ap x.pushed.length cp) := hR.x.cell 4
  have gx4 := hR.x.free 4
  have x6 : w.cell? ⟨X, 6, none⟩ = some (.int .i64 x.ended) := hR.x.cell 6
  have gx6 := hR.x.free 6
  have x10 : w.cell? ⟨X, 10, none⟩ = some (.int .i64 x.takes) := hR.x.cell 10
  have gx10 := hR.x.free 10
  have x12 : w.cell? ⟨X, 12, none⟩ = some (.int .i64 x.looked) := hR.x.cell 12
  have gx12 := hR.x.free 12
  have x13 : w.cell? ⟨X, 13, none⟩ = some (.bool x.clean) := hR.x.cell 13
  have gx13 := hR.x.free 13
  have x17 : w.cell? ⟨X, 17, none⟩ = some (.bool true) := hR.x.cell 17
  have gx17 := hR.x.free 17
  have x18 : w.cell? ⟨X, 18, none⟩ = some (.bool true) := hR.x.cell 18
  have gx18 := hR.x.free 18
  have x7 : w.cell? ⟨X, 7, none⟩ = some (.slice Ag x.got.length cg) := hR.x.cell 7
  have HR := hid hR
  have Ho := hid ho
  have HlG := hid hlal
  have Hrt := hid hrt
  have Hrp := hid hrp
  clear hrt hrp
  have HI' := hid hI'
  have Hend := hid hend
  have HR0 := hid hR0
  clear hR ho hI hI' hend hR0 htk hlal
  go_enter Try.func16, Try.ntmps16
  go_wp2_with fail
  refine (rstep_any B p cb fb rb lv x.s x.f r w HR.out.fm (HR.out.rr rb _ rfl).1 ⟨by rw [Hrt.out]; decide, by rw [Hrt.out]; decide⟩ (by omega) HR.out.bz Hrp.out).mono ?_
  rw [Ho.out]
  rintro e wa ⟨rfl, lv1, hfa, hra, hca, hya⟩
  have hRa := HR.out.received rfl hfa hra hca
  clear hfa hra hca hya
  clear x0 gx0 x2 gx2 x4 gx4 x6 gx6 x10 gx10 x12 gx12 x13 gx13 x17 gx17 x18 gx18
  have x0 : wa.cell? ⟨X, 0, none⟩ = some (.pointer (some ⟨fb, 0, none⟩)) := hRa.x.cell 0
  have gx0 := hRa.x.free 0
  have x2 : wa.cell? ⟨X, 2, none⟩ = some (.pointer (some ⟨rb, 0, none⟩)) := hRa.x.cell 2
  have gx2 := hRa.x.free 2
  have x4 : wa.cell? ⟨X, 4, none⟩ = some (.slice Ap x.pushed.length cp) := hRa.x.cell 4
  have gx4 := hRa.x.free 4
  have x6 : wa.cell? ⟨X, 6, none⟩ = some (.int .i64 x.ended) := hRa.x.cell 6
  have gx6 := hRa.x.free 6
  have x10 : wa.cell? ⟨X, 10, none⟩ = some (.int .i64 x.takes) := hRa.x.cell 10
  have gx10 := hRa.x.free 10
  have x12 : wa.cell? ⟨X, 12, none⟩ = some (.int .i64 x.looked) := hRa.x.cell 12
  have gx12 := hRa.x.free 12
  have x13 : wa.cell? ⟨X, 13, none⟩ = some (.bool x.clean) := hRa.x.cell 13
  have gx13 := hRa.x.free 13
  have x17 : wa.cell? ⟨X, 17, none⟩ = some (.bool true) := hRa.x.cell 17
  have gx17 := hRa.x.free 17
  have x18 : wa.cell? ⟨X, 18, none⟩ = some (.bool true) := hRa.x.cell 18
  have gx18 := hRa.x.free 18
  have HRs := hid hRa
  clear hRa
  go_wp2_with fail
  refine calls_world fun wb hwb => ?_
  have HRt := hid (show RunW _ _ _ _ _ _ _ _ _ _ _ _ _ _ _ _ _ _ _ _ wb by rw [hwb]; exact ((HRs.out.put 10 (.int .i64 ((x.takes : Int) + 1))).put 18 (.bool true)))
  clear x0 gx0 x2 gx2 x4 gx4 x6 gx6 x10 gx10 x12 gx12 x13 gx13 x17 gx17 x18 gx18
  clear hwb
  have x0 : wb.cell? ⟨X, 0, none⟩ = some (.pointer (some ⟨fb, 0, none⟩)) := HRt.out.x.cell 0
  have gx0 := HRt.out.x.free 0
  have x2 : wb.cell? ⟨X, 2, none⟩ = some (.pointer (some ⟨rb, 0, none⟩)) := HRt.out.x.cell 2
  have gx2 := HRt.out.x.free 2
  have x4 : wb.cell? ⟨X, 4, none⟩ = some (.slice Ap x.pushed.length cp) := HRt.out.x.cell 4
  have gx4 := HRt.out.x.free 4
  have x6 : wb.cell? ⟨X, 6, none⟩ = some (.int .i64 x.ended) := HRt.out.x.cell 6
  have gx6 := HRt.out.x.free 6
  have x10 : wb.cell? ⟨X, 10, none⟩ = some (.int .i64 ((x.takes : Int) + 1)) := HRt.out.x.cell 10
  have gx10 := HRt.out.x.free 10
  have x12 : wb.cell? ⟨X, 12, none⟩ = some (.int .i64 x.looked) := HRt.out.x.cell 12
  have gx12 := HRt.out.x.free 12
  have x13 : wb.cell? ⟨X, 13, none⟩ = some (.bool x.clean) := HRt.out.x.cell 13
  have gx13 := HRt.out.x.free 13
  have x17 : wb.cell? ⟨X, 17, none⟩ = some (.bool true) := HRt.out.x.cell 17
  have gx17 := HRt.out.x.free 17
  have x18 : wb.cell? ⟨X, 18, none⟩ = some (.bool true) := HRt.out.x.cell 18
  have gx18 := HRt.out.x.free 18
  refine (fres_any fb rb r1 _ (HRt.out.rr rb _ rfl).1 HzE.out).mono ?_
  rintro e wf ⟨rfl, nf, rfl⟩
  go_wp2_with fail
  refine calls_world fun wg hwg => ?_
  have hz := HzE.out
  have hE : x.stR r = { x with s := s1, f := x.f.rcv (r1.ph != 0), R := none, takes := x.takes + 1 } := by
    unfold Xs.stR
    rw [Ho.out]
    simp only [hz, h14, if_false, if_true]
  have hXg : RunX B p cb fb X (x.stR r) w0 wg := by
    rw [hE, hwg]
    exact runX_mk (((HRt.out.drewN nf).put 2 (.pointer none)).noR) pb rb rfl rfl rfl rfl rfl rfl rfl rfl (by rfl)
  have hC : x.conR r = (x.stR r).gotV r1.value r1.lagged := by
    unfold Xs.conR Xs.endR
    rw [Ho.out]
    simp only [hz, HeE.out, if_true]
  have hI2 := HI'.out
  rw [hC] at hI2
  refine (got_any B p cb fb X (x.stR r) r1.value r1.lagged H' T w0 wg hXg ⟨?_, ?_, ?_, ?_⟩ ⟨hI2.hH, hI2.hT, by omega, by omega⟩ HG.out).mono ?_
  · rw [hE]; exact hpul
  · rw [hE]; exact hitl
  · rw [hE]; exact hgol
  · rw [hE]; exact HlG.out
  rintro e wh ⟨rfl, hXh⟩
  clear x0 gx0 x2 gx2 x4 gx4 x6 gx6 x10 gx10 x12 gx12 x13 gx13 x17 gx17 x18 gx18
  go_wp2_with fail
  go_ret
  rw [hC]
  exact ⟨rfl, hXh⟩

set_option maxRecDepth 100000 in
set_option maxHeartbeats 2000000 in
theorem con_e0 (B p cb fb X : Nat) (x : Xs) (m H T a : Nat) (w0 w : World) (r : Rd) (hR0 : x.R = some r) (hI : Inv x m H T a) (hm : m ≤ 1000) (hX : RunX B p cb fb X x w0 w) (h14 : r.ph ≠ 14) (hz : (rstep x.s x.f r).2.ph = 0) (he : (rstep x.s x.f r).2.err = 17) (hv : (rstep x.s x.f r).2.value = 0) (hl : (rstep x.s x.f r).2.lagged = false) (hcl : x.clean = true) (hlk : x.looked = 0) :
    Calls Try.prog 16 #[.pointer (some ⟨X, 0, none⟩)] w fun e w' => e = .returned (.bool true) ∧ RunX B p cb fb X (x.conR r) w0 w' := by
  obtain ⟨H', a', hI', htk, hend⟩ := inv_conR hI hm hR0
  have hitl : x.items.length ≤ 2000 := by rw [hI.il]; have := hI.HT; omega
  have hpul : x.pushed.length ≤ 2000 := by have := hI.pm; omega
  have hgol : x.got.length ≤ 2000 := by have := hI.gl; omega
  have hlal : x.lags.length = x.got.length := hI.gl.1.symm
  have hlg := hI.lg
  have hend2 : x.ended ≤ 2000 := by have := hI.pl; omega
  have hHT0 := hI'.HT
  obtain ⟨lv, vp, vi, vg, vl, pb, rb, hR⟩ := hX
  rw [hR0] at hR
  obtain ⟨s1, r1, ho⟩ : ∃ s1 r1, rstep x.s x.f r = (s1, r1) := ⟨_, _, rfl⟩
  have hrt := (hI.cons r hR0).t
  have hrp := (hI.cons r hR0).ph
  have htk1 : x.takes + 1 ≤ 4 := htk
  obtain ⟨Ap, cp, rfl, _⟩ := own_slice hR.rp
  obtain ⟨Ai, ci, rfl, _⟩ := own_slice hR.ri
  obtain ⟨Ag, cg, rfl, _⟩ := own_slice hR.rg
  have hb14 : (r.ph == 14) = false := by rw [beq_eq_false_iff_ne]; exact h14
  rw [ho] at hz
  have hbn : (r1.ph == 0) = true := by rw [beq_iff_eq]; exact hz
  have hbt : decide ((x.takes : Int) + 1 ≤ 4) = true := decide_eq_true (by omega)
  rw [ho] at he hv hl
  replace he : r1.err = 17 := he
  replace hz : r1.ph = 0 := hz
  replace hv : r1.value = 0 := hv
  replace hl : r1.lagged = false := hl
  have hbe : (r1.err != 0) = true := by simp [he]
  have hbe17 : (r1.err == 17) = true := by simp [he]
  have hbv : (r1.value == 0) = true := by simp [hv]
  have HzE := hid hz
  have HeE := hid he
  have HcE := hid hcl
  clear hz he hv hcl
  have hlb : ((x.looked : Int) == 0) = true := by rw [beq_iff_eq]; omega
  clear hlk
  have x0 : w.cell? ⟨X, 0, none⟩ = some (.pointer (some ⟨fb, 0, none⟩)) := hR.x.cell 0
  have gx0 := hR.x.free 0
  have x2 : w.cell? ⟨X, 2, none⟩ = some (.pointer (some ⟨rb, 0, none⟩)) := hR.x.cell 2
  have gx2 := hR.x.free 2
  have x4 : w.cell? ⟨X, 4, none⟩ = some (.slice Ap x.pushed.length cp) := hR.x.cell 4
  have gx4 := hR.x.free 4
  have x6 : w.cell? ⟨X, 6, none⟩ = some (.int .i64 x.ended) := hR.x.cell 6
  have gx6 := hR.x.free 6
  have x10 : w.cell? ⟨X, 10, none⟩ = some (.int .i64 x.takes) := hR.x.cell 10
  have gx10 := hR.x.free 10
  have x12 : w.cell? ⟨X, 12, none⟩ = some (.int .i64 x.looked) := hR.x.cell 12
  have gx12 := hR.x.free 12
  have x13 : w.cell? ⟨X, 13, none⟩ = some (.bool x.clean) := hR.x.cell 13
  have gx13 := hR.x.free 13
  have x17 : w.cell? ⟨X, 17, none⟩ = some (.bool true) := hR.x.cell 17
  have gx17 := hR.x.free 17
  have x18 : w.cell? ⟨X, 18, none⟩ = some (.bool true) := hR.x.cell 18
  have gx18 := hR.x.free 18
  have x7 : w.cell? ⟨X, 7, none⟩ = some (.slice Ag x.got.length cg) := hR.x.cell 7
  have HR := hid hR
  have Ho := hid ho
  have HlG := hid hlal
  have Hrt := hid hrt
  have Hrp := hid hrp
  clear hrt hrp
  have HI' := hid hI'
  have Hend := hid hend
  have HR0 := hid hR0
  clear hR ho hI hI' hend hR0 htk hlal
  go_enter Try.func16, Try.ntmps16
  go_wp2_with fail
  refine (rstep_any B p cb fb rb lv x.s x.f r w HR.out.fm (HR.out.rr rb _ rfl).1 ⟨by rw [Hrt.out]; decide, by rw [Hrt.out]; decide⟩ (by omega) HR.out.bz Hrp.out).mono ?_
  rw [Ho.out]
  rintro e wa ⟨rfl, lv1, hfa, hra, hca, hya⟩
  have hRa := HR.out.received rfl hfa hra hca
  clear hfa hra hca hya
  clear x0 gx0 x2 gx2 x4 gx4 x6 gx6 x10 gx10 x12 gx12 x13 gx13 x17 gx17 x18 gx18
  have x0 : wa.cell? ⟨X, 0, none⟩ = some (.pointer (some ⟨fb, 0, none⟩)) := hRa.x.cell 0
  have gx0 := hRa.x.free 0
  have x2 : wa.cell? ⟨X, 2, none⟩ = some (.pointer (some ⟨rb, 0, none⟩)) := hRa.x.cell 2
  have gx2 := hRa.x.free 2
  have x4 : wa.cell? ⟨X, 4, none⟩ = some (.slice Ap x.pushed.length cp) := hRa.x.cell 4
  have gx4 := hRa.x.free 4
  have x6 : wa.cell? ⟨X, 6, none⟩ = some (.int .i64 x.ended) := hRa.x.cell 6
  have gx6 := hRa.x.free 6
  have x10 : wa.cell? ⟨X, 10, none⟩ = some (.int .i64 x.takes) := hRa.x.cell 10
  have gx10 := hRa.x.free 10
  have x12 : wa.cell? ⟨X, 12, none⟩ = some (.int .i64 x.looked) := hRa.x.cell 12
  have gx12 := hRa.x.free 12
  have x13 : wa.cell? ⟨X, 13, none⟩ = some (.bool x.clean) := hRa.x.cell 13
  have gx13 := hRa.x.free 13
  have x17 : wa.cell? ⟨X, 17, none⟩ = some (.bool true) := hRa.x.cell 17
  have gx17 := hRa.x.free 17
  have x18 : wa.cell? ⟨X, 18, none⟩ = some (.bool true) := hRa.x.cell 18
  have gx18 := hRa.x.free 18
  have HRs := hid hRa
  clear hRa
  go_wp2_with fail
  refine calls_world fun wb hwb => ?_
  have HRt := hid (show RunW _ _ _ _ _ _ _ _ _ _ _ _ _ _ _ _ _ _ _ _ wb by rw [hwb]; exact ((HRs.out.put 10 (.int .i64 ((x.takes : Int) + 1))).put 18 (.bool true)))
  clear x0 gx0 x2 gx2 x4 gx4 x6 gx6 x10 gx10 x12 gx12 x13 gx13 x17 gx17 x18 gx18
  clear hwb
  have x0 : wb.cell? ⟨X, 0, none⟩ = some (.pointer (some ⟨fb, 0, none⟩)) := HRt.out.x.cell 0
  have gx0 := HRt.out.x.free 0
  have x2 : wb.cell? ⟨X, 2, none⟩ = some (.pointer (some ⟨rb, 0, none⟩)) := HRt.out.x.cell 2
  have gx2 := HRt.out.x.free 2
  have x4 : wb.cell? ⟨X, 4, none⟩ = some (.slice Ap x.pushed.length cp) := HRt.out.x.cell 4
  have gx4 := HRt.out.x.free 4
  have x6 : wb.cell? ⟨X, 6, none⟩ = some (.int .i64 x.ended) := HRt.out.x.cell 6
  have gx6 := HRt.out.x.free 6
  have x10 : wb.cell? ⟨X, 10, none⟩ = some (.int .i64 ((x.takes : Int) + 1)) := HRt.out.x.cell 10
  have gx10 := HRt.out.x.free 10
  have x12 : wb.cell? ⟨X, 12, none⟩ = some (.int .i64 x.looked) := HRt.out.x.cell 12
  have gx12 := HRt.out.x.free 12
  have x13 : wb.cell? ⟨X, 13, none⟩ = some (.bool true) := by rw [← HcE.out]; exact HRt.out.x.cell 13
  have gx13 := HRt.out.x.free 13
  have x17 : wb.cell? ⟨X, 17, none⟩ = some (.bool true) := HRt.out.x.cell 17
  have gx17 := HRt.out.x.free 17
  have x18 : wb.cell? ⟨X, 18, none⟩ = some (.bool true) := HRt.out.x.cell 18
  have gx18 := HRt.out.x.free 18
  refine (fres_any fb rb r1 _ (HRt.out.rr rb _ rfl).1 HzE.out).mono ?_
  rintro e wf ⟨rfl, nf, rfl⟩
  go_wp2_with fail
  refine Mix.wp_region_mix (fun _ => True) (fun i => ([0, 0, 0, 0, 0, 0, 0, 0, 0, 0, 0, 0, 0, 0, 0, 0, 0, 0, 0, 0, 0, 0, 0, 0, 0, 0, 0, 0, 0, 0, 0, 0, 0, 2] : List Nat).getD i 0) [0, 1, 2, 3, 4, 5, 6, 7, 8, 9, 10, 11, 12, 13, 14, 15, 16, 17, 18, 19, 20, 21, 22, 23, 24, 25, 26, 27, 28, 29, 30, 31, 32, 33] (by kernel_rfl) (by kernel_rfl) ?_
  refine Mix.mix_world fun wh hwh => ?_
  have HRh := hid (show RunW _ _ _ _ _ _ _ _ _ _ _ _ _ _ _ _ _ _ _ _ wh by rw [hwh]; exact (((HRt.out.drewN nf).put 2 (.pointer none)).noR))
  clear x0 gx0 x2 gx2 x4 gx4 x6 gx6 x10 gx10 x12 gx12 x13 gx13 x17 gx17 x18 gx18
  clear hwh x7
  have x0 : wh.cell? ⟨X, 0, none⟩ = some (.pointer (some ⟨fb, 0, none⟩)) := HRh.out.x.cell 0
  have gx0 := HRh.out.x.free 0
  have x2 : wh.cell? ⟨X, 2, none⟩ = some (.pointer none) := HRh.out.x.cell 2
  have gx2 := HRh.out.x.free 2
  have x4 : wh.cell? ⟨X, 4, none⟩ = some (.slice Ap x.pushed.length cp) := HRh.out.x.cell 4
  have gx4 := HRh.out.x.free 4
  have x6 : wh.cell? ⟨X, 6, none⟩ = some (.int .i64 x.ended) := HRh.out.x.cell 6
  have gx6 := HRh.out.x.free 6
  have x10 : wh.cell? ⟨X, 10, none⟩ = some (.int .i64 ((x.takes : Int) + 1)) := HRh.out.x.cell 10
  have gx10 := HRh.out.x.free 10
  have x12 : wh.cell? ⟨X, 12, none⟩ = some (.int .i64 x.looked) := HRh.out.x.cell 12
  have gx12 := HRh.out.x.free 12
  have x13 : wh.cell? ⟨X, 13, none⟩ = some (.bool true) := by rw [← HcE.out]; exact HRh.out.x.cell 13
  have gx13 := HRh.out.x.free 13
  have x17 : wh.cell? ⟨X, 17, none⟩ = some (.bool true) := HRh.out.x.cell 17
  have gx17 := HRh.out.x.free 17
  have x18 : wh.cell? ⟨X, 18, none⟩ = some (.bool true) := HRh.out.x.cell 18
  have gx18 := HRh.out.x.free 18
  repeat (refine Mix.mix_q (by simp only [List.getElem?_toArray, List.getElem?_cons_zero, List.getElem?_cons_succ]; exact rfl) rfl ?_; go_big_quiet_step (fail); refine wpQuiet_nil ?_)
  refine Mix.mix_e (by simp only [List.getElem?_toArray, List.getElem?_cons_zero, List.getElem?_cons_succ]; exact rfl) rfl fun W1 hW1 => ?_
  obtain ⟨n1, rfl⟩ := hW1
  go_wp2_with fail
  intro n2
  go_wp2_with fail
  go_ret
  refine ⟨rfl, ?_⟩
  have hz := HzE.out
  have hE : x.conR r = { x with s := s1, f := x.f.rcv (r1.ph != 0), R := none, takes := x.takes + 1 } := by
    unfold Xs.conR Xs.endR Xs.stR
    rw [Ho.out]
    simp only [hz, h14, HeE.out, if_false, if_true, show (17 : Int) = 0 ↔ False from by simp]
  rw [hE]
  exact runX_mk (((HRh.out.drewN n1).put 17 (.bool true)).drewN n2) pb rb rfl rfl rfl rfl rfl rfl rfl rfl (by rfl)

set_option maxRecDepth 100000 in
set_option maxHeartbeats 2000000 in
theorem con_e1 (B p cb fb X : Nat) (x : Xs) (m H T a : Nat) (w0 w : World) (r : Rd) (hR0 : x.R = some r) (hI : Inv x m H T a) (hm : m ≤ 1000) (hX : RunX B p cb fb X x w0 w) (h14 : r.ph ≠ 14) (hz : (rstep x.s x.f r).2.ph = 0) (he : (rstep x.s x.f r).2.err = 17) (hv : (rstep x.s x.f r).2.value = 0) (hl : (rstep x.s x.f r).2.lagged = false) (hcl : x.clean = true) (hlk : 0 < x.looked) (hlk2 : x.looked ≤ x.pushed.length) (hlk3 : lk x.pushed (x.looked - 1) ≤ lastI x.got) :
    Calls Try.prog 16 #[.pointer (some ⟨X, 0, none⟩)] w fun e w' => e = .returned (.bool true) ∧ RunX B p cb fb X (x.conR r) w0 w' := by
  obtain ⟨H', a', hI', htk, hend⟩ := inv_conR hI hm hR0
  have hitl : x.items.length ≤ 2000 := by rw [hI.il]; have := hI.HT; omega
  have hpul : x.pushed.length ≤ 2000 := by have := hI.pm; omega
  have hgol : x.got.length ≤ 2000 := by have := hI.gl; omega
  have hlal : x.lags.length = x.got.length := hI.gl.1.symm
  have hlg := hI.lg
  have hend2 : x.ended ≤ 2000 := by have := hI.pl; omega
  have hHT0 := hI'.HT
  obtain ⟨lv, vp, vi, vg, vl, pb, rb, hR⟩ := hX
  rw [hR0] at hR
  obtain ⟨s1, r1, ho⟩ : ∃ s1 r1, rstep x.s x.f r = (s1, r1) := ⟨_, _, rfl⟩
  have hrt := (hI.cons r hR0).t
  have hrp := (hI.cons r hR0).ph
  have htk1 : x.takes + 1 ≤ 4 := htk
  obtain ⟨Ap, cp, rfl, _⟩ := own_slice hR.rp
  obtain ⟨Ai, ci, rfl, _⟩ := own_slice hR.ri
  obtain ⟨Ag, cg, rfl, _⟩ := own_slice hR.rg
  have hb14 : (r.ph == 14) = false := by rw [beq_eq_false_iff_ne]; exact h14
  rw [ho] at hz
  have hbn : (r1.ph == 0) = true := by rw [beq_iff_eq]; exact hz
  have hbt : decide ((x.takes : Int) + 1 ≤ 4) = true := decide_eq_true (by omega)
  rw [ho] at he hv hl
  replace he : r1.err = 17 := he
  replace hz : r1.ph = 0 := hz
  replace hv : r1.value = 0 := hv
  replace hl : r1.lagged = false := hl
  have hbe : (r1.err != 0) = true := by simp [he]
  have hbe17 : (r1.err == 17) = true := by simp [he]
  have hbv : (r1.value == 0) = true := by simp [hv]
  have HzE := hid hz
  have HeE := hid he
  have HcE := hid hcl
  clear hz he hv hcl
  have hlb : ((x.looked : Int) == 0) = false := by rw [beq_eq_false_iff_ne]; omega
  have hle3 : decide (lk x.pushed (x.looked - 1) ≤ lastI x.got) = true := decide_eq_true hlk3
  obtain ⟨gp, cp2, hvp, _, _⟩ := row_last hR.rp rfl (by omega)
  injection hvp with e1 e2 e3
  subst e1 e3
  clear e2
  have Hrow := hid (row_cell hR.rp rfl)
  have x0 : w.cell? ⟨X, 0, none⟩ = some (.pointer (some ⟨fb, 0, none⟩)) := hR.x.cell 0
  have gx0 := hR.x.free 0
  have x2 : w.cell? ⟨X, 2, none⟩ = some (.pointer (some ⟨rb, 0, none⟩)) := hR.x.cell 2
  have gx2 := hR.x.free 2
  have x4 : w.cell? ⟨X, 4, none⟩ = some (.slice (some ⟨gp, 0, none⟩) x.pushed.length cp) := hR.x.cell 4
  have gx4 := hR.x.free 4
  have x6 : w.cell? ⟨X, 6, none⟩ = some (.int .i64 x.ended) := hR.x.cell 6
  have gx6 := hR.x.free 6
  have x10 : w.cell? ⟨X, 10, none⟩ = some (.int .i64 x.takes) := hR.x.cell 10
  have gx10 := hR.x.free 10
  have x12 : w.cell? ⟨X, 12, none⟩ = some (.int .i64 x.looked) := hR.x.cell 12
  have gx12 := hR.x.free 12
  have x13 : w.cell? ⟨X, 13, none⟩ = some (.bool x.clean) := hR.x.cell 13
  have gx13 := hR.x.free 13
  have x17 : w.cell? ⟨X, 17, none⟩ = some (.bool true) := hR.x.cell 17
  have gx17 := hR.x.free 17
  have x18 : w.cell? ⟨X, 18, none⟩ = some (.bool true) := hR.x.cell 18
  have gx18 := hR.x.free 18
  have x7 : w.cell? ⟨X, 7, none⟩ = some (.slice Ag x.got.length cg) := hR.x.cell 7
  have HR := hid hR
  have Ho := hid ho
  have HlG := hid hlal
  have Hrt := hid hrt
  have Hrp := hid hrp
  clear hrt hrp
  have HI' := hid hI'
  have Hend := hid hend
  have HR0 := hid hR0
  clear hR ho hI hI' hend hR0 htk hlal
  go_enter Try.func16, Try.ntmps16
  go_wp2_with fail
  refine (rstep_any B p cb fb rb lv x.s x.f r w HR.out.fm (HR.out.rr rb _ rfl).1 ⟨by rw [Hrt.out]; decide, by rw [Hrt.out]; decide⟩ (by omega) HR.out.bz Hrp.out).mono ?_
  rw [Ho.out]
  rintro e wa ⟨rfl, lv1, hfa, hra, hca, hya⟩
  have hRa := HR.out.received rfl hfa hra hca
  clear hfa hra hca hya
  clear x0 gx0 x2 gx2 x4 gx4 x6 gx6 x10 gx10 x12 gx12 x13 gx13 x17 gx17 x18 gx18
  have x0 : wa.cell? ⟨X, 0, none⟩ = some (.pointer (some ⟨fb, 0, none⟩)) := hRa.x.cell 0
  have gx0 := hRa.x.free 0
  have x2 : wa.cell? ⟨X, 2, none⟩ = some (.pointer (some ⟨rb, 0, none⟩)) := hRa.x.cell 2
  have gx2 := hRa.x.free 2
  have x4 : wa.cell? ⟨X, 4, none⟩ = some (.slice (some ⟨gp, 0, none⟩) x.pushed.length cp) := hRa.x.cell 4
  have gx4 := hRa.x.free 4
  have x6 : wa.cell? ⟨X, 6, none⟩ = some (.int .i64 x.ended) := hRa.x.cell 6
  have gx6 := hRa.x.free 6
  have x10 : wa.cell? ⟨X, 10, none⟩ = some (.int .i64 x.takes) := hRa.x.cell 10
  have gx10 := hRa.x.free 10
  have x12 : wa.cell? ⟨X, 12, none⟩ = some (.int .i64 x.looked) := hRa.x.cell 12
  have gx12 := hRa.x.free 12
  have x13 : wa.cell? ⟨X, 13, none⟩ = some (.bool x.clean) := hRa.x.cell 13
  have gx13 := hRa.x.free 13
  have x17 : wa.cell? ⟨X, 17, none⟩ = some (.bool true) := hRa.x.cell 17
  have gx17 := hRa.x.free 17
  have x18 : wa.cell? ⟨X, 18, none⟩ = some (.bool true) := hRa.x.cell 18
  have gx18 := hRa.x.free 18
  have HRs := hid hRa
  clear hRa
  go_wp2_with fail
  refine calls_world fun wb hwb => ?_
  have HRt := hid (show RunW _ _ _ _ _ _ _ _ _ _ _ _ _ _ _ _ _ _ _ _ wb by rw [hwb]; exact ((HRs.out.put 10 (.int .i64 ((x.takes : Int) + 1))).put 18 (.bool true)))
  clear x0 gx0 x2 gx2 x4 gx4 x6 gx6 x10 gx10 x12 gx12 x13 gx13 x17 gx17 x18 gx18
  clear hwb
  have x0 : wb.cell? ⟨X, 0, none⟩ = some (.pointer (some ⟨fb, 0, none⟩)) := HRt.out.x.cell 0
  have gx0 := HRt.out.x.free 0
  have x2 : wb.cell? ⟨X, 2, none⟩ = some (.pointer (some ⟨rb, 0, none⟩)) := HRt.out.x.cell 2
  have gx2 := HRt.out.x.free 2
  have x4 : wb.cell? ⟨X, 4, none⟩ = some (.slice (some ⟨gp, 0, none⟩) x.pushed.length cp) := HRt.out.x.cell 4
  have gx4 := HRt.out.x.free 4
  have x6 : wb.cell? ⟨X, 6, none⟩ = some (.int .i64 x.ended) := HRt.out.x.cell 6
  have gx6 := HRt.out.x.free 6
  have x10 : wb.cell? ⟨X, 10, none⟩ = some (.int .i64 ((x.takes : Int) + 1)) := HRt.out.x.cell 10
  have gx10 := HRt.out.x.free 10
  have x12 : wb.cell? ⟨X, 12, none⟩ = some (.int .i64 x.looked) := HRt.out.x.cell 12
  have gx12 := HRt.out.x.free 12
  have x13 : wb.cell? ⟨X, 13, none⟩ = some (.bool true) := by rw [← HcE.out]; exact HRt.out.x.cell 13
  have gx13 := HRt.out.x.free 13
  have x17 : wb.cell? ⟨X, 17, none⟩ = some (.bool true) := HRt.out.x.cell 17
  have gx17 := HRt.out.x.free 17
  have x18 : wb.cell? ⟨X, 18, none⟩ = some (.bool true) := HRt.out.x.cell 18
  have gx18 := HRt.out.x.free 18
  refine (fres_any fb rb r1 _ (HRt.out.rr rb _ rfl).1 HzE.out).mono ?_
  rintro e wf ⟨rfl, nf, rfl⟩
  go_wp2_with fail
  refine Mix.wp_region_mix (fun _ => True) (fun i => ([0, 0, 0, 0, 0, 0, 0, 0, 0, 0, 0, 0, 0, 0, 0, 0, 0, 0, 0, 0, 0, 0, 0, 0, 0, 0, 0, 0, 0, 0, 0, 0, 0, 2] : List Nat).getD i 0) [0, 1, 2, 3, 4, 5, 6, 7, 8, 9, 10, 11, 12, 13, 14, 15, 16, 17, 18, 19, 20, 21, 22, 23, 24, 25, 26, 27, 28, 29, 30, 31, 32, 33] (by kernel_rfl) (by kernel_rfl) ?_
  refine Mix.mix_world fun wh hwh => ?_
  have HRh := hid (show RunW _ _ _ _ _ _ _ _ _ _ _ _ _ _ _ _ _ _ _ _ wh by rw [hwh]; exact (((HRt.out.drewN nf).put 2 (.pointer none)).noR))
  clear x0 gx0 x2 gx2 x4 gx4 x6 gx6 x10 gx10 x12 gx12 x13 gx13 x17 gx17 x18 gx18
  clear hwh x7
  have x0 : wh.cell? ⟨X, 0, none⟩ = some (.pointer (some ⟨fb, 0, none⟩)) := HRh.out.x.cell 0
  have gx0 := HRh.out.x.free 0
  have x2 : wh.cell? ⟨X, 2, none⟩ = some (.pointer none) := HRh.out.x.cell 2
  have gx2 := HRh.out.x.free 2
  have x4 : wh.cell? ⟨X, 4, none⟩ = some (.slice (some ⟨gp, 0, none⟩) x.pushed.length cp) := HRh.out.x.cell 4
  have gx4 := HRh.out.x.free 4
  have x6 : wh.cell? ⟨X, 6, none⟩ = some (.int .i64 x.ended) := HRh.out.x.cell 6
  have gx6 := HRh.out.x.free 6
  have x10 : wh.cell? ⟨X, 10, none⟩ = some (.int .i64 ((x.takes : Int) + 1)) := HRh.out.x.cell 10
  have gx10 := HRh.out.x.free 10
  have x12 : wh.cell? ⟨X, 12, none⟩ = some (.int .i64 x.looked) := HRh.out.x.cell 12
  have gx12 := HRh.out.x.free 12
  have x13 : wh.cell? ⟨X, 13, none⟩ = some (.bool true) := by rw [← HcE.out]; exact HRh.out.x.cell 13
  have gx13 := HRh.out.x.free 13
  have x17 : wh.cell? ⟨X, 17, none⟩ = some (.bool true) := HRh.out.x.cell 17
  have gx17 := HRh.out.x.free 17
  have x18 : wh.cell? ⟨X, 18, none⟩ = some (.bool true) := HRh.out.x.cell 18
  have gx18 := HRh.out.x.free 18
  have hpk : wh.cell? ⟨gp, x.looked - 1, none⟩ = some (.int .u64 (lk x.pushed (x.looked - 1))) := row_cell HRh.out.rp rfl _ (by omega)
  have x7 : wh.cell? ⟨X, 7, none⟩ = some (.slice Ag x.got.length cg) := HRh.out.x.cell 7
  repeat (refine Mix.mix_q (by simp only [List.getElem?_toArray, List.getElem?_cons_zero, List.getElem?_cons_succ]; exact rfl) rfl ?_; go_big_quiet_step ((go_at_call 18; exact last_q B X _ x.got _ x7 HRh.out.rg (by omega) _)); refine wpQuiet_nil ?_)
  refine Mix.mix_e (by simp only [List.getElem?_toArray, List.getElem?_cons_zero, List.getElem?_cons_succ]; exact rfl) rfl fun W1 hW1 => ?_
  obtain ⟨n1, rfl⟩ := hW1
  go_wp2_with fail
  intro n2
  go_wp2_with fail
  go_ret
  refine ⟨rfl, ?_⟩
  have hz := HzE.out
  have hE : x.conR r = { x with s := s1, f := x.f.rcv (r1.ph != 0), R := none, takes := x.takes + 1 } := by
    unfold Xs.conR Xs.endR Xs.stR
    rw [Ho.out]
    simp only [hz, h14, HeE.out, if_false, if_true, show (17 : Int) = 0 ↔ False from by simp]
  rw [hE]
  exact runX_mk (((HRh.out.drewN n1).put 17 (.bool true)).drewN n2) pb rb rfl rfl rfl rfl rfl rfl rfl rfl (by rfl)
end Go.Proofs.Ytonjbofdmmnpdaa
