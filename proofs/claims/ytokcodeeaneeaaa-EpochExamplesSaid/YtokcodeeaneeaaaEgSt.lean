/- Runs of an epoch: scan, Fine being true. -/
import Derived.Test.YtokcodeeaneeaaaEgSa
namespace Go.Proofs.Ytokcodeeaneeaaa
open Go.RowKit
set_option linter.unusedVariables false
set_option linter.unusedSimpArgs false
set_option linter.unusedSectionVars false

set_option maxRecDepth 100000 in
set_option maxHeartbeats 4000000 in
theorem scan_t (rp : List (Option Nat)) (B p cb qb pb pr X lb n M : Nat) (lv ov v0 v1 v2 : Value) (x : Xr) (gp : List Gp) (gs : Gs) (go : List (Nat × Rt)) (w0 w : World) (h : RunG rp B p cb qb pb pr X lb n M lv ov v0 v1 v2 x gp gs go w0 w) (hM : M + 1 ≤ 200000) (hf : x.fine = true) :
    Calls Try.prog 41 #[.pointer (some ⟨X, 0, none⟩)] w (Scanned rp B p cb qb pb pr X lb n M ov x gp w0) := by
  have HR := hid h
  have HFV := hid hf
  have HMX := hid hM
  clear h hf
  by_cases hx : x.sc = none
  · have HXN := hid hx
    have hr := HR.out.rests hx
    have x4 : w.cell? ⟨X, 4, none⟩ = some (.pointer none) := ((HR.out.mem.each 3 _ rfl).cell 4).trans (congrArg some hr.2)
    have x1 : w.cell? ⟨X, 1, none⟩ = some (.pointer (some ⟨qb, 0, none⟩)) := (HR.out.mem.each 3 _ rfl).cell 1
    have HRS := hid hr.1
    clear hx hr
    go_enter Try.func41, Try.ntmps41
    go_wp2_with fail
    refine (scan_ok B p cb qb lv x.s (edf n) (pinsV pb n) (gsV gs) w HR.out.ep 15 ⟨by decide, by decide⟩ HRS.out).mono ?_
    intro e w2 hb2
    obtain ⟨g, rfl, hm2⟩ := HR.out.begun HXN.out hb2
    clear hb2 x4 x1
    have x4 : w2.cell? ⟨X, 4, none⟩ = some (.pointer none) := (hm2.each 3 _ rfl).cell 4
    have fx4 := Blk.free (hm2.each 3 _ rfl) 4
    have x0 : w2.cell? ⟨X, 0, none⟩ = some (.pointer (some ⟨p, 0, none⟩)) := (hm2.each 3 _ rfl).cell 0
    have M2 := hid hm2
    clear hm2
    have HR1 := hid (HR.out.begun2 HXN.out (g := g) (show Mem B w0 _ (w2.setCell ⟨X, 4, none⟩ (.pointer (some ⟨g, 0, none⟩))) from M2.out.put (i := 3) rfl 4 (.pointer (some ⟨g, 0, none⟩))))
    have HGV := hid (show gsV (gsLive (some (g, sn0 n))) = .pointer (some ⟨g, 0, none⟩) by
      have hne : ¬ (sn0 n).ph = 0 := by unfold sn0; simp only; split <;> decide
      rw [gsLive_1 hne]; rfl)
    obtain ⟨q, hq0⟩ : ∃ q, q = sn0 n := ⟨_, rfl⟩
    rw [← hq0] at HR1 HGV
    have HQ0 := hid hq0
    clear hq0
    obtain ⟨wq, hwq⟩ : ∃ wq, wq = w2.setCell ⟨X, 4, none⟩ (.pointer (some ⟨g, 0, none⟩)) := ⟨_, rfl⟩
    rw [← hwq] at HR1
    have HWQ := hid hwq
    clear hwq
    go_wp2_with fail
    rw [← HWQ.out]
    clear x0 x4 fx4
    have hq := HR1.out.inv.sc q rfl
    have hph : (q.ph = 34 ∧ q.at' < n) ∨ q.ph = 35 := by
      by_cases hlt : q.at' < n
      · exact .inl ⟨by rw [hq.2.2.2, if_pos hlt], hlt⟩
      · exact .inr (by rw [hq.2.2.2, if_neg hlt])
    have hlg := HR1.out.inv.ll
    have hMM := HR1.out.hM
    have HPH := hid hph
    have HT := hid hq.1
    clear hph hq
    have x4 : wq.cell? ⟨X, 4, none⟩ = some (.pointer (some ⟨g, 0, none⟩)) := ((HR1.out.mem.each 3 _ rfl).cell 4).trans (congrArg some HGV.out)
    refine (len_any B p cb lv x.s wq HR1.out.ep.b).mono ?_
    rintro e w' ⟨rfl, rfl⟩
    go_wp2_with fail
    refine (sn_step B p cb qb g lv x.s (edf n) (pinsV pb n) _ q wq HR1.out.ep (HR1.out.mem.each 9 _ rfl) (by rw [HT.out]; decide) (by omega) HR1.out.mem.bz (.inr HPH.out)).mono ?_
    rintro e w3 ⟨rfl, lv', hE3, hq3, c3, f3⟩
    obtain ⟨o, ho⟩ : ∃ o, o = snstep x.s (edf n) q := ⟨_, rfl⟩
    rw [← ho] at hE3 hq3 ⊢
    have m3 : Mem B w0 (egL B p cb qb pb pr X lb n lv' ov v0 v1 v2 (lbCells v0 v1 v2) o.1 true (gbOf gp) rp (.pointer (some ⟨g, 0, none⟩)) (gsV (gsLive (some (g, q)))) (gsR qb (some (g, o.2))) (lim x.old 0 0) (lim x.old 0 1) (lim x.old 0 2) go.length (goV n go) (gp.map (gpR qb)) (go.map goR)) w3 := by have t := HR1.out.stepped hE3 hq3 c3 f3; first | exact t | (rw [HFV.out] at t; exact t)
    rw [HGV.out] at m3
    have HL3 := hid (show ((o.1.lg.length : Nat) : Int) = (x.s.lg.length : Int) + 1 by rw [ho, snstep_ll (HPH.out.imp (fun e => e.1) id)]; push_cast; rfl)
    have M3 := hid m3
    have HO := hid ho
    clear x4 hE3 hq3 c3 f3 ho m3
    have x6 : w3.cell? ⟨X, 6, none⟩ = some (.bool true) := (M3.out.each 3 _ rfl).cell 6
    have fx6 := Blk.free (M3.out.each 3 _ rfl) 6
    have x4 : w3.cell? ⟨X, 4, none⟩ = some (.pointer (some ⟨g, 0, none⟩)) := (M3.out.each 3 _ rfl).cell 4
    have x0 : w3.cell? ⟨X, 0, none⟩ = some (.pointer (some ⟨p, 0, none⟩)) := (M3.out.each 3 _ rfl).cell 0
    go_wp2_with fail
    refine (len_any B p cb lv' o.1 w3 (show EpochM _ _ _ _ _ _ _ _ _ _ from M3.out.each 0 _ rfl).b).mono ?_
    rintro e w' ⟨rfl, rfl⟩
    rw [HL3.out]
    clear x0
    by_cases hd : o.2.ph = 0
    · have bd : (o.2.ph == 0) = true := by rw [beq_iff_eq]; exact hd
      have HD := hid hd
      clear hd
      go_wp2_with fail
      refine calls_world fun W4 hW4 => ?_
      have m4 : Mem B w0 (egL B p cb qb pb pr X lb n lv' ov v0 v1 v2 (lbCells v0 v1 v2) o.1 true (gbOf gp) rp (.pointer (some ⟨g, 0, none⟩)) (.pointer (some ⟨g, 0, none⟩)) (gsR qb (some (g, o.2))) (lim x.old 0 0) (lim x.old 0 1) (lim x.old 0 2) go.length (goV n go) (gp.map (gpR qb)) (go.map goR)) W4 := by rw [hW4]; exact M3.out.put (i := 3) rfl 6 (.bool true)
      have M4 := hid m4
      clear hW4 x4 x6 fx6 m4
      refine (sn_result qb g W4 o.2 (M4.out.each 9 _ rfl) (.inl HD.out)).mono ?_
      rintro e w' ⟨rfl, rfl⟩
      rw [show snRes o.2 = (o.2.adv, 0) from if_pos HD.out]
      have x4 : W4.cell? ⟨X, 4, none⟩ = some (.pointer (some ⟨g, 0, none⟩)) := (M4.out.each 3 _ rfl).cell 4
      have fx4 := Blk.free (M4.out.each 3 _ rfl) 4
      have x6 : W4.cell? ⟨X, 6, none⟩ = some (.bool true) := (M4.out.each 3 _ rfl).cell 6
      have fx6 := Blk.free (M4.out.each 3 _ rfl) 6
      have M5 := hid (show Mem B w0 (egL B p cb qb pb pr X lb n lv' ov v0 v1 v2 (lbCells v0 v1 v2) o.1 true (gbOf gp) rp (.pointer (some ⟨g, 0, none⟩)) (.pointer none) (gsR qb (some (g, o.2))) (lim x.old 0 0) (lim x.old 0 1) (lim x.old 0 2) go.length (goV n go) (gp.map (gpR qb)) (go.map goR)) ((W4.setCell ⟨X, 4, none⟩ (.pointer none)).setCell ⟨X, 6, none⟩ (.bool true)) from (M4.out.put (i := 3) rfl 4 (.pointer none)).put (i := 3) rfl 6 (.bool true))
      have HGL := hid (gsLive_0 (g := g) HD.out)
      cases hadv : o.2.adv
      · have HADV := hid hadv
        clear hadv
        go_wp2_with fail
        go_ret
        have es : xscan n ({ x with sc := some q } : Xr) = { ({ x with sc := some q } : Xr) with s := o.1, sc := none } := by rw [HO.out]; exact xscan_of0 rfl (by rw [← HO.out]; exact HD.out) (by rw [← HO.out]; exact HADV.out)
        have hi := einv_scan HR1.out.inv (by omega)
        refine ⟨rfl, lv', v0, v1, v2, some (g, o.2), go, ?_⟩
        rw [← xscan_begun HXN.out, ← HQ0.out]
        rw [es] at hi ⊢
        refine ⟨?_, HR1.out.ps, by rw [HGL.out]; rfl, HR1.out.old, hi, Nat.le_succ_of_le HR1.out.om, HR1.out.n5, HMX.out⟩
        rw [HGL.out]
        exact (show Mem B w0 (egL B p cb qb pb pr X lb n lv' ov v0 v1 v2 (lbCells v0 v1 v2) o.1 x.fine (gbOf gp) rp (gsV (some (g, o.2))) (gsV none) (gsR qb (some (g, o.2))) (lim x.old 0 0) (lim x.old 0 1) (lim x.old 0 2) go.length (goV n go) (gp.map (gpR qb)) (go.map goR)) _ by rw [HFV.out]; exact M5.out)
      · have HADV := hid hadv
        clear hadv
        go_wp2_with fail
        refine calls_world fun W6 hW6 => ?_
        have m6 : Mem B w0 (egL B p cb qb pb pr X lb n lv' ov v0 v1 v2 (lbCells v0 v1 v2) o.1 true (gbOf gp) rp (.pointer (some ⟨g, 0, none⟩)) (.pointer none) (gsR qb (some (g, o.2))) (lim x.old 0 0) (lim x.old 0 1) (lim x.old 0 2) go.length (goV n go) (gp.map (gpR qb)) (go.map goR)) W6 := by rw [hW6]; exact M5.out
        clear hW6 x4 x6 fx4 fx6
        have hnow := snstep_now HR1.out.inv HR1.out.hM rfl
        rw [show (snstep (({ x with sc := some q } : Xr) : Xr).s (edf n) q) = o from HO.out.symm] at hnow
        have hnw := HR1.out.inv.nw
        refine (due_any B p cb qb pb pr X lb n lv' ov v0 v1 v2 o.1 true (gbOf gp) rp (.pointer (some ⟨g, 0, none⟩)) (.pointer none) (gsR qb (some (g, o.2))) x.old go (gp.map (gpR qb)) w0 W6 m6 HR1.out.old (by rw [List.length_map]; exact HR1.out.gl) HR1.out.n5 (by have e1 : ((({ x with sc := some q } : Xr) : Xr)).now = x.now := rfl; rw [e1] at hnow hnw; omega) (HR1.out.goOk hnow.1)).mono ?_
        rintro e w7 ⟨rfl, u0, u1, u2, go', f', hfold, hgl', hok', m7⟩
        have HFO := hid hfold
        have M7 := hid m7
        clear hfold m7 m6 hnow hnw
        go_wp2_with fail
        go_ret
        have es : xscan n ({ x with sc := some q } : Xr) = { ({ x with sc := some q } : Xr) with s := o.1, sc := none, old := go'.map Prod.snd, fine := f' } := by
          have hd := HFO.out
          rw [HO.out] at hd ⊢
          exact xscan_of1 rfl (by rw [← HO.out]; exact HD.out) (by rw [← HO.out]; exact HADV.out) (by rw [show (({ x with sc := some q } : Xr) : Xr).fine = true from HFV.out]; exact hd)
        have hi := einv_scan HR1.out.inv (by omega)
        refine ⟨rfl, lv', u0, u1, u2, some (g, o.2), go', ?_⟩
        rw [← xscan_begun HXN.out, ← HQ0.out]
        rw [es] at hi ⊢
        refine ⟨?_, HR1.out.ps, by rw [HGL.out]; rfl, rfl, hi, by rw [hgl']; exact Nat.le_succ_of_le HR1.out.om, HR1.out.n5, HMX.out⟩
        rw [HGL.out]
        exact M7.out
    · have bd : (o.2.ph == 0) = false := by rw [beq_eq_false_iff_ne]; exact hd
      have HD := hid hd
      have HGL := hid (gsLive_1 (g := g) hd)
      clear hd
      have M5 := hid (show Mem B w0 (egL B p cb qb pb pr X lb n lv' ov v0 v1 v2 (lbCells v0 v1 v2) o.1 true (gbOf gp) rp (.pointer (some ⟨g, 0, none⟩)) (.pointer (some ⟨g, 0, none⟩)) (gsR qb (some (g, o.2))) (lim x.old 0 0) (lim x.old 0 1) (lim x.old 0 2) go.length (goV n go) (gp.map (gpR qb)) (go.map goR)) (w3.setCell ⟨X, 6, none⟩ (.bool true)) from M3.out.put (i := 3) rfl 6 (.bool true))
      go_wp2_with fail
      go_ret
      have es : xscan n ({ x with sc := some q } : Xr) = { ({ x with sc := some q } : Xr) with s := o.1, sc := some o.2 } := by rw [HO.out]; exact xscan_of rfl (by rw [← HO.out]; exact HD.out)
      have hi := einv_scan HR1.out.inv (by omega)
      refine ⟨rfl, lv', v0, v1, v2, some (g, o.2), go, ?_⟩
      rw [← xscan_begun HXN.out, ← HQ0.out]
      rw [es] at hi ⊢
      refine ⟨?_, HR1.out.ps, by rw [HGL.out]; rfl, HR1.out.old, hi, Nat.le_succ_of_le HR1.out.om, HR1.out.n5, HMX.out⟩
      rw [HGL.out]
      exact (show Mem B w0 (egL B p cb qb pb pr X lb n lv' ov v0 v1 v2 (lbCells v0 v1 v2) o.1 x.fine (gbOf gp) rp (gsV (some (g, o.2))) (gsV (some (g, o.2))) (gsR qb (some (g, o.2))) (lim x.old 0 0) (lim x.old 0 1) (lim x.old 0 2) go.length (goV n go) (gp.map (gpR qb)) (go.map goR)) _ by rw [HFV.out]; exact M5.out)
  · have hr := HR.out.live hx
    obtain ⟨g, q, rfl, hq0, hxq, hgv⟩ := hr
    have HXL := hid hxq
    have HGV := hid hgv
    obtain ⟨wq, hwq⟩ : ∃ wq, wq = w := ⟨_, rfl⟩
    rw [← hwq] at HR
    have x4 : w.cell? ⟨X, 4, none⟩ = some (.pointer (some ⟨g, 0, none⟩)) := by rw [← hwq]; exact ((HR.out.mem.each 3 _ rfl).cell 4).trans (congrArg some hgv)
    have x0 : w.cell? ⟨X, 0, none⟩ = some (.pointer (some ⟨p, 0, none⟩)) := by rw [← hwq]; exact (HR.out.mem.each 3 _ rfl).cell 0
    have HWQ := hid hwq
    clear hx hxq hgv hq0 hwq
    go_enter Try.func41, Try.ntmps41
    go_wp2_with fail
    rw [← HWQ.out]
    clear x4 x0
    have hq := HR.out.inv.sc q HXL.out
    have hph : (q.ph = 34 ∧ q.at' < n) ∨ q.ph = 35 := by
      by_cases hlt : q.at' < n
      · exact .inl ⟨by rw [hq.2.2.2, if_pos hlt], hlt⟩
      · exact .inr (by rw [hq.2.2.2, if_neg hlt])
    have hlg := HR.out.inv.ll
    have hMM := HR.out.hM
    have HPH := hid hph
    have HT := hid hq.1
    clear hph hq
    have x4 : wq.cell? ⟨X, 4, none⟩ = some (.pointer (some ⟨g, 0, none⟩)) := ((HR.out.mem.each 3 _ rfl).cell 4).trans (congrArg some HGV.out)
    refine (len_any B p cb lv x.s wq HR.out.ep.b).mono ?_
    rintro e w' ⟨rfl, rfl⟩
    go_wp2_with fail
    refine (sn_step B p cb qb g lv x.s (edf n) (pinsV pb n) _ q wq HR.out.ep (HR.out.mem.each 9 _ rfl) (by rw [HT.out]; decide) (by omega) HR.out.mem.bz (.inr HPH.out)).mono ?_
    rintro e w3 ⟨rfl, lv', hE3, hq3, c3, f3⟩
    obtain ⟨o, ho⟩ : ∃ o, o = snstep x.s (edf n) q := ⟨_, rfl⟩
    rw [← ho] at hE3 hq3 ⊢
    have m3 : Mem B w0 (egL B p cb qb pb pr X lb n lv' ov v0 v1 v2 (lbCells v0 v1 v2) o.1 true (gbOf gp) rp (.pointer (some ⟨g, 0, none⟩)) (gsV (gsLive (some (g, q)))) (gsR qb (some (g, o.2))) (lim x.old 0 0) (lim x.old 0 1) (lim x.old 0 2) go.length (goV n go) (gp.map (gpR qb)) (go.map goR)) w3 := by have t := HR.out.stepped hE3 hq3 c3 f3; first | exact t | (rw [HFV.out] at t; exact t)
    rw [HGV.out] at m3
    have HL3 := hid (show ((o.1.lg.length : Nat) : Int) = (x.s.lg.length : Int) + 1 by rw [ho, snstep_ll (HPH.out.imp (fun e => e.1) id)]; push_cast; rfl)
    have M3 := hid m3
    have HO := hid ho
    clear x4 hE3 hq3 c3 f3 ho m3
    have x6 : w3.cell? ⟨X, 6, none⟩ = some (.bool true) := (M3.out.each 3 _ rfl).cell 6
    have fx6 := Blk.free (M3.out.each 3 _ rfl) 6
    have x4 : w3.cell? ⟨X, 4, none⟩ = some (.pointer (some ⟨g, 0, none⟩)) := (M3.out.each 3 _ rfl).cell 4
    have x0 : w3.cell? ⟨X, 0, none⟩ = some (.pointer (some ⟨p, 0, none⟩)) := (M3.out.each 3 _ rfl).cell 0
    go_wp2_with fail
    refine (len_any B p cb lv' o.1 w3 (show EpochM _ _ _ _ _ _ _ _ _ _ from M3.out.each 0 _ rfl).b).mono ?_
    rintro e w' ⟨rfl, rfl⟩
    rw [HL3.out]
    clear x0
    by_cases hd : o.2.ph = 0
    · have bd : (o.2.ph == 0) = true := by rw [beq_iff_eq]; exact hd
      have HD := hid hd
      clear hd
      go_wp2_with fail
      refine calls_world fun W4 hW4 => ?_
      have m4 : Mem B w0 (egL B p cb qb pb pr X lb n lv' ov v0 v1 v2 (lbCells v0 v1 v2) o.1 true (gbOf gp) rp (.pointer (some ⟨g, 0, none⟩)) (.pointer (some ⟨g, 0, none⟩)) (gsR qb (some (g, o.2))) (lim x.old 0 0) (lim x.old 0 1) (lim x.old 0 2) go.length (goV n go) (gp.map (gpR qb)) (go.map goR)) W4 := by rw [hW4]; exact M3.out.put (i := 3) rfl 6 (.bool true)
      have M4 := hid m4
      clear hW4 x4 x6 fx6 m4
      refine (sn_result qb g W4 o.2 (M4.out.each 9 _ rfl) (.inl HD.out)).mono ?_
      rintro e w' ⟨rfl, rfl⟩
      rw [show snRes o.2 = (o.2.adv, 0) from if_pos HD.out]
      have x4 : W4.cell? ⟨X, 4, none⟩ = some (.pointer (some ⟨g, 0, none⟩)) := (M4.out.each 3 _ rfl).cell 4
      have fx4 := Blk.free (M4.out.each 3 _ rfl) 4
      have x6 : W4.cell? ⟨X, 6, none⟩ = some (.bool true) := (M4.out.each 3 _ rfl).cell 6
      have fx6 := Blk.free (M4.out.each 3 _ rfl) 6
      have M5 := hid (show Mem B w0 (egL B p cb qb pb pr X lb n lv' ov v0 v1 v2 (lbCells v0 v1 v2) o.1 true (gbOf gp) rp (.pointer (some ⟨g, 0, none⟩)) (.pointer none) (gsR qb (some (g, o.2))) (lim x.old 0 0) (lim x.old 0 1) (lim x.old 0 2) go.length (goV n go) (gp.map (gpR qb)) (go.map goR)) ((W4.setCell ⟨X, 4, none⟩ (.pointer none)).setCell ⟨X, 6, none⟩ (.bool true)) from (M4.out.put (i := 3) rfl 4 (.pointer none)).put (i := 3) rfl 6 (.bool true))
      have HGL := hid (gsLive_0 (g := g) HD.out)
      cases hadv : o.2.adv
      · have HADV := hid hadv
        clear hadv
        go_wp2_with fail
        go_ret
        have es : xscan n x = { x with s := o.1, sc := none } := by rw [HO.out]; exact xscan_of0 HXL.out (by rw [← HO.out]; exact HD.out) (by rw [← HO.out]; exact HADV.out)
        have hi := einv_scan HR.out.inv (by omega)
        refine ⟨rfl, lv', v0, v1, v2, some (g, o.2), go, ?_⟩
        rw [es] at hi ⊢
        refine ⟨?_, HR.out.ps, by rw [HGL.out]; rfl, HR.out.old, hi, Nat.le_succ_of_le HR.out.om, HR.out.n5, HMX.out⟩
        rw [HGL.out]
        exact (show Mem B w0 (egL B p cb qb pb pr X lb n lv' ov v0 v1 v2 (lbCells v0 v1 v2) o.1 x.fine (gbOf gp) rp (gsV (some (g, o.2))) (gsV none) (gsR qb (some (g, o.2))) (lim x.old 0 0) (lim x.old 0 1) (lim x.old 0 2) go.length (goV n go) (gp.map (gpR qb)) (go.map goR)) _ by rw [HFV.out]; exact M5.out)
      · have HADV := hid hadv
        clear hadv
        go_wp2_with fail
        refine calls_world fun W6 hW6 => ?_
        have m6 : Mem B w0 (egL B p cb qb pb pr X lb n lv' ov v0 v1 v2 (lbCells v0 v1 v2) o.1 true (gbOf gp) rp (.pointer (some ⟨g, 0, none⟩)) (.pointer none) (gsR qb (some (g, o.2))) (lim x.old 0 0) (lim x.old 0 1) (lim x.old 0 2) go.length (goV n go) (gp.map (gpR qb)) (go.map goR)) W6 := by rw [hW6]; exact M5.out
        clear hW6 x4 x6 fx4 fx6
        have hnow := snstep_now HR.out.inv HR.out.hM HXL.out
        rw [show (snstep (x : Xr).s (edf n) q) = o from HO.out.symm] at hnow
        have hnw := HR.out.inv.nw
        refine (due_any B p cb qb pb pr X lb n lv' ov v0 v1 v2 o.1 true (gbOf gp) rp (.pointer (some ⟨g, 0, none⟩)) (.pointer none) (gsR qb (some (g, o.2))) x.old go (gp.map (gpR qb)) w0 W6 m6 HR.out.old (by rw [List.length_map]; exact HR.out.gl) HR.out.n5 (by have e1 : ((x : Xr)).now = x.now := rfl; rw [e1] at hnow hnw; omega) (HR.out.goOk hnow.1)).mono ?_
        rintro e w7 ⟨rfl, u0, u1, u2, go', f', hfold, hgl', hok', m7⟩
        have HFO := hid hfold
        have M7 := hid m7
        clear hfold m7 m6 hnow hnw
        go_wp2_with fail
        go_ret
        have es : xscan n x = { x with s := o.1, sc := none, old := go'.map Prod.snd, fine := f' } := by
          have hd := HFO.out
          rw [HO.out] at hd ⊢
          exact xscan_of1 HXL.out (by rw [← HO.out]; exact HD.out) (by rw [← HO.out]; exact HADV.out) (by rw [show (x : Xr).fine = true from HFV.out]; exact hd)
        have hi := einv_scan HR.out.inv (by omega)
        refine ⟨rfl, lv', u0, u1, u2, some (g, o.2), go', ?_⟩
        rw [es] at hi ⊢
        refine ⟨?_, HR.out.ps, by rw [HGL.out]; rfl, rfl, hi, by rw [hgl']; exact Nat.le_succ_of_le HR.out.om, HR.out.n5, HMX.out⟩
        rw [HGL.out]
        exact M7.out
    · have bd : (o.2.ph == 0) = false := by rw [beq_eq_false_iff_ne]; exact hd
      have HD := hid hd
      have HGL := hid (gsLive_1 (g := g) hd)
      clear hd
      have M5 := hid (show Mem B w0 (egL B p cb qb pb pr X lb n lv' ov v0 v1 v2 (lbCells v0 v1 v2) o.1 true (gbOf gp) rp (.pointer (some ⟨g, 0, none⟩)) (.pointer (some ⟨g, 0, none⟩)) (gsR qb (some (g, o.2))) (lim x.old 0 0) (lim x.old 0 1) (lim x.old 0 2) go.length (goV n go) (gp.map (gpR qb)) (go.map goR)) (w3.setCell ⟨X, 6, none⟩ (.bool true)) from M3.out.put (i := 3) rfl 6 (.bool true))
      go_wp2_with fail
      go_ret
      have es : xscan n x = { x with s := o.1, sc := some o.2 } := by rw [HO.out]; exact xscan_of HXL.out (by rw [← HO.out]; exact HD.out)
      have hi := einv_scan HR.out.inv (by omega)
      refine ⟨rfl, lv', v0, v1, v2, some (g, o.2), go, ?_⟩
      rw [es] at hi ⊢
      refine ⟨?_, HR.out.ps, by rw [HGL.out]; rfl, HR.out.old, hi, Nat.le_succ_of_le HR.out.om, HR.out.n5, HMX.out⟩
      rw [HGL.out]
      exact (show Mem B w0 (egL B p cb qb pb pr X lb n lv' ov v0 v1 v2 (lbCells v0 v1 v2) o.1 x.fine (gbOf gp) rp (gsV (some (g, o.2))) (gsV (some (g, o.2))) (gsR qb (some (g, o.2))) (lim x.old 0 0) (lim x.old 0 1) (lim x.old 0 2) go.length (goV n go) (gp.map (gpR qb)) (go.map goR)) _ by rw [HFV.out]; exact M5.out)
end Go.Proofs.Ytokcodeeaneeaaa
