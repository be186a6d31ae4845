/- Runs of an epoch: run. -/
import Derived.Test.YtokcodeeaneeaaaEgRb
namespace Go.Proofs.Ytokcodeeaneeaaa
open Go.RowKit
set_option linter.unusedVariables false
set_option linter.unusedSimpArgs false
set_option linter.unusedSectionVars false

set_option maxRecDepth 100000 in
set_option maxHeartbeats 16000000 in
theorem egrun_any (n : Nat) (hn : n ≤ 5) (a : Option Addr) (len cap : Nat) (xs : List EvG) (w : World) (he : InEvG w a len xs) (hl : len ≤ 300) : Calls Try.prog 40 #[.int .i64 n, .slice a len cap] w (EgEnd n len w) := by
  have HE := hid he
  clear he
  go_enter Try.func40, Try.ntmps40
  go_wp2_with fail
  refine (egbegin_any n hn w).mono ?_
  rintro e w1 ⟨p, cb, qb, pb, pr, X, lb, rfl, hr0⟩
  have HR0 := hid hr0
  clear hr0
  go_wp2_with fail
  go_loopw [6] (fun i wr => ∃ j : Nat, j ≤ len ∧ i = .int .i64 j ∧ EgSo p cb qb pb pr X lb n j w wr) (fun i _ => len - (intOf i).toNat)
  case atStart => exact ⟨0, Nat.zero_le _, rfl, _, _, _, _, _, _, _, _, _, HR0.out, ginv_x0 n⟩
  case round =>
    obtain ⟨j, hj, rfl, lv, ov, v0, v1, v2, x, gp, gs, go, hR, hG⟩ := hrel
    by_cases hlt : j < len
    · have hxl := HE.out.1
      obtain ⟨b, off, rfl, hbl, hcell⟩ := HE.out.2.2 (by omega)
      obtain ⟨ev, hev⟩ : ∃ ev, xs[j]? = some ev := ⟨_, List.getElem?_eq_getElem (by omega)⟩
      obtain ⟨ek1, ek2, ek3⟩ := HE.out.2.1 ev (List.mem_of_getElem? hev)
      have c0 := (hR.mem.bel.cell (p := ⟨b, off + j * 3, none⟩) hbl).trans (hcell j 0 ev _ hev rfl)
      have c2 := (hR.mem.bel.cell (p := ⟨b, off + j * 3 + 2, none⟩) hbl).trans (hcell j 2 ev _ hev rfl)
      have d1 : decide (j < len) = true := decide_eq_true hlt
      have d1' : decide ((j : Int) < (len : Int)) = true := decide_eq_true (by omega)
      have H := hid hR
      have HG := hid hG
      have HFN := hid hG.fn
      have HEK := hid ek3
      clear hev hcell ek2 ek3 hR hG
      by_cases h4 : ev.d % 5 = 0 ∨ ev.d % 5 = 1 ∨ ev.d % 5 = 2 ∨ ev.d % 5 = 3
      · by_cases h0 : ev.d % 5 = 0
        · have e0 : (ev.d % 5 == 0) = true := by rw [beq_iff_eq]; exact h0
          clear h0 h4
          as_aux_lemma =>
            by_cases hn0 : n = 0
            · have dn : decide (0 < n) = false := decide_eq_false (by omega)
              have dn' : decide ((0 : Int) < (n : Int)) = false := decide_eq_false (by omega)
              have dz : ((n : Int) == 0) = true := by rw [beq_iff_eq]; omega
              have dz' : (n == 0) = true := by rw [beq_iff_eq]; omega
              clear c2 hn0
              go_wp2_with fail
              go_roundw
              case rel => exact ⟨j + 1, by omega, by go_num, _, _, _, _, _, _, _, _, _, H.out.le (Nat.le_succ j) (by omega), HG.out.le (Nat.le_succ j)⟩
              case measure => simp [intOf]; omega
            · obtain ⟨⟨t1, t2⟩, k, hkn, hkk⟩ := slot_of ev.k n (by omega) hn
              have dn : decide (0 < n) = true := decide_eq_true (by omega)
              have dn' : decide ((0 : Int) < (n : Int)) = true := decide_eq_true (by omega)
              have dz : ((n : Int) == 0) = false := by rw [beq_eq_false_iff_ne]; omega
              have dz' : (n == 0) = false := by rw [beq_eq_false_iff_ne]; omega
              have hnz : ¬ (n : Int) = 0 := by omega
              obtain ⟨t, ht⟩ : ∃ t, ev.k.tmod n = t := ⟨_, rfl⟩
              rw [ht] at t1 t2 hkk
              have hpos : 0 ≤ t + (n : Int) := by omega
              have hle : t + (n : Int) ≤ 10 := by omega
              obtain ⟨o, ho⟩ : ∃ o, gp[k]? = some o := ⟨_, List.getElem?_eq_getElem (by rw [H.out.gl]; exact hkn)⟩
              have HP := hid ho
              clear ho
              have x3 : wr.cell? ⟨X, 3, none⟩ = some (.slice (some ⟨pr, 0, none⟩) n n) := (H.out.mem.each 3 _ rfl).cell 3
              have x0 : wr.cell? ⟨X, 0, none⟩ = some (.pointer (some ⟨p, 0, none⟩)) := (H.out.mem.each 3 _ rfl).cell 0
              have hlg := H.out.inv.ll
              have nX1 : X ≠ pr := Blk.ne (H.out.mem.each 3 _ rfl) (H.out.mem.each 2 _ rfl) (by decide)
              have nX2 : pr ≠ X := fun e => nX1 e.symm
              match o, HP with
              | none, HP =>
                have pk : wr.cell? ⟨pr, k, none⟩ = some (.pointer none) := (Blk.cell (H.out.mem.each 2 _ rfl) k).trans (pinsA_at (gb_at HP.out))
                have x1 : wr.cell? ⟨X, 1, none⟩ = some (.pointer (some ⟨qb, 0, none⟩)) := (H.out.mem.each 3 _ rfl).cell 1
                go_wp2_with fail
                clear c0 c2
                refine (pin_ok w.heap.size p cb qb pb lv x.s (edf n) (gsV gs) (gbOf gp) wr H.out.ep (H.out.mem.each 1 _ rfl) H.out.gbl (k : Int) k (ck_ok (by omega) hkn) (gb_at HP.out)).mono ?_
                intro e w2 hb2
                obtain ⟨g, rfl, hm2⟩ := H.out.pbeg hkn hb2
                clear hb2 pk x1 x3 x0
                have x3 : w2.cell? ⟨X, 3, none⟩ = some (.slice (some ⟨pr, 0, none⟩) n n) := (hm2.each 3 _ rfl).cell 3
                have x0 : w2.cell? ⟨X, 0, none⟩ = some (.pointer (some ⟨p, 0, none⟩)) := (hm2.each 3 _ rfl).cell 0
                have pk : w2.cell? ⟨pr, k, none⟩ = some (.pointer none) := (Blk.cell (hm2.each 2 _ rfl) k).trans (pinsA_at (gb_at HP.out))
                have fpk := Blk.free (hm2.each 2 _ rfl) k
                have HR1 := hid (show RunG (gbOf (gp.set k (some (g, pn0 k)))) _ _ _ _ _ _ _ _ _ _ _ _ _ _ _ _ _ _ _ _ (w2.setCell ⟨pr, k, none⟩ (.pointer (some ⟨g, 0, none⟩))) from by
                  have t := hm2.put (i := 2) rfl k (pinV (some g))
                  rw [pinsA_set] at t
                  have t2 := H.out.pbeg2 (rp' := (gbOf gp).set k (some g)) hkn HP.out (g := g) t
                  rw [gb_set]
                  exact t2)
                have M2 := hid hm2
                clear hm2
                have HXE := hid (xpin_begun (n := n) (x := x) (k := k) (by rw [H.out.pin_at HP.out]; rfl) (by rw [H.out.inv.pl]; exact hkn))
                obtain ⟨q, hq0⟩ : ∃ q, q = pn0 k := ⟨_, rfl⟩
                rw [← hq0] at HR1 HXE
                have HP := hid (show (gp.set k (some (g, q)))[k]? = some (some (g, q)) by rw [List.getElem?_set, if_pos rfl, if_pos (by rw [H.out.gl]; exact hkn)])
                clear hq0
                obtain ⟨wq, hwq⟩ : ∃ wq, wq = w2.setCell ⟨pr, k, none⟩ (.pointer (some ⟨g, 0, none⟩)) := ⟨_, rfl⟩
                rw [← hwq] at HR1
                have HWQ := hid hwq
                clear hwq
                go_wp2_with fail
                rw [← HWQ.out]
                clear x0 x3 pk fpk
                have hpq := HR1.out.pinQ HP.out
                have HPQ := hid hpq
                clear hpq
                refine (len_any w.heap.size p cb lv x.s wq HR1.out.ep.b).mono ?_
                rintro e w' ⟨rfl, rfl⟩
                have x3 : wq.cell? ⟨X, 3, none⟩ = some (.slice (some ⟨pr, 0, none⟩) n n) := (HR1.out.mem.each 3 _ rfl).cell 3
                have pk : wq.cell? ⟨pr, k, none⟩ = some (.pointer (some ⟨g, 0, none⟩)) := (Blk.cell (HR1.out.mem.each 2 _ rfl) k).trans (pinsA_at (gb_at HP.out))
                go_wp2_with fail
                refine (pn_next qb g wq q (HR1.out.pinB HP.out)).mono ?_
                rintro e w' ⟨rfl, rfl⟩
                by_cases hph : q.ph = 0
                · have bph : (q.ph != 0) = false := by rw [bne_eq_false_iff_eq]; exact hph
                  have HPH := hid hph
                  clear hph
                  go_wp2_with fail
                  go_roundw
                  case rel => exact ⟨j + 1, by omega, by go_num, _, _, _, _, _, _, _, _, _, (show RunG _ _ _ _ _ _ _ _ _ _ _ _ _ _ _ _ (xpin n k { x with ps := x.ps.set k (some q) }) _ _ _ _ _ from by rw [xpin_idle HR1.out HP.out HPH.out]; exact HR1.out.le (Nat.le_succ j) (by omega)), (show GInv n (j + 1) (xpin n k { x with ps := x.ps.set k (some q) }) from by rw [HXE.out]; exact ginv_pin HG.out (by omega) hkn)⟩
                  case measure => simp [intOf]; omega
                · have bph : (q.ph != 0) = true := by rw [bne_iff_ne]; exact hph
                  have HPH := hid hph
                  clear hph
                  go_wp2_with fail
                  refine (pn_step w.heap.size p cb qb g lv x.s (edf n) (pinsV pb n) (gsV gs) q wq HR1.out.ep (HR1.out.pinB HP.out) (by rw [HPQ.out.1]; omega) (by omega) HR1.out.mem.bz (by show q.slot < n; rw [HPQ.out.2.1]; exact hkn) HPQ.out.2.2).mono ?_
                  rintro e w3 ⟨rfl, lv', hE3, hq3, c3, f3⟩
                  obtain ⟨o, ho⟩ : ∃ o, o = pnstep x.s (edf n) q := ⟨_, rfl⟩
                  rw [← ho] at hE3 hq3 ⊢
                  have m3 : Mem w.heap.size w (egL w.heap.size p cb qb pb pr X lb n lv' ov v0 v1 v2 (lbCells v0 v1 v2) o.1 x.fine (gbOf (gp.set k (some (g, q)))) (gbOf (gp.set k (some (g, q)))) (gsV gs) (gsV (gsLive gs)) (gsR qb gs) (lim x.old 0 0) (lim x.old 0 1) (lim x.old 0 2) go.length (goV n go) (((gp.set k (some (g, q))).map (gpR qb)).set k (blkR g 117 (pnCells qb g o.2))) (go.map goR)) w3 := HR1.out.pstepM HP.out hE3 hq3 c3 f3
                  have HL3 := hid (show ((o.1.lg.length : Nat) : Int) = (x.s.lg.length : Int) + 1 by rw [ho, pnstep_ll (HPQ.out.2.2.resolve_left HPH.out)]; push_cast; rfl)
                  have M3 := hid m3
                  have HO := hid ho
                  clear x3 pk hE3 hq3 c3 f3 ho m3
                  have x6 : w3.cell? ⟨X, 6, none⟩ = some (.bool true) := ((M3.out.each 3 _ rfl).cell 6).trans (congrArg (fun b => some (Value.bool b)) HFN.out)
                  have fx6 := Blk.free (M3.out.each 3 _ rfl) 6
                  have x0 : w3.cell? ⟨X, 0, none⟩ = some (.pointer (some ⟨p, 0, none⟩)) := (M3.out.each 3 _ rfl).cell 0
                  go_wp2_with fail
                  refine (len_any w.heap.size p cb lv' o.1 w3 (show EpochM _ _ _ _ _ _ _ _ _ _ from M3.out.each 0 _ rfl).b).mono ?_
                  rintro e w' ⟨rfl, rfl⟩
                  rw [HL3.out]
                  have M5 := hid (show Mem w.heap.size w (egL w.heap.size p cb qb pb pr X lb n lv' ov v0 v1 v2 (lbCells v0 v1 v2) o.1 true (gbOf (gp.set k (some (g, q)))) (gbOf (gp.set k (some (g, q)))) (gsV gs) (gsV (gsLive gs)) (gsR qb gs) (lim x.old 0 0) (lim x.old 0 1) (lim x.old 0 2) go.length (goV n go) (((gp.set k (some (g, q))).map (gpR qb)).set k (blkR g 117 (pnCells qb g o.2))) (go.map goR)) (w3.setCell ⟨X, 6, none⟩ (.bool true)) from M3.out.put (i := 3) rfl 6 (.bool true))
                  have M6 := hid (show Mem w.heap.size w (egL w.heap.size p cb qb pb pr X lb n lv' ov v0 v1 v2 (lbCells v0 v1 v2) o.1 x.fine (gbOf (gp.set k (some (g, q)))) (gbOf (gp.set k (some (g, q)))) (gsV gs) (gsV (gsLive gs)) (gsR qb gs) (lim x.old 0 0) (lim x.old 0 1) (lim x.old 0 2) go.length (goV n go) (((gp.set k (some (g, q))).map (gpR qb)).set k (blkR g 117 (pnCells qb g o.2))) (go.map goR)) (w3.setCell ⟨X, 6, none⟩ (.bool true)) from by rw [HFN.out]; exact M5.out)
                  clear x0
                  go_wp2_with fail
                  go_roundw
                  case rel => exact ⟨j + 1, by omega, by go_num, _, _, _, _, _, _, _, _, _, HR1.out.pstep3 (by omega) HP.out HPH.out (by rw [← HO.out]; exact M6.out), (show GInv n (j + 1) (xpin n k { x with ps := x.ps.set k (some q) }) from by rw [HXE.out]; exact ginv_pin HG.out (by omega) hkn)⟩
                  case measure => simp [intOf]; omega
              | some (g, q), HP =>
                have pk : wr.cell? ⟨pr, k, none⟩ = some (.pointer (some ⟨g, 0, none⟩)) := (Blk.cell (H.out.mem.each 2 _ rfl) k).trans (pinsA_at (gb_at HP.out))
                go_wp2_with fail
                clear c0 c2 x0 x3 pk
                obtain ⟨wq, hwq⟩ : ∃ wq, wq = wr := ⟨_, rfl⟩
                rw [← hwq] at H ⊢
                clear hwq
                have hpq := H.out.pinQ HP.out
                have HPQ := hid hpq
                clear hpq
                refine (len_any w.heap.size p cb lv x.s wq H.out.ep.b).mono ?_
                rintro e w' ⟨rfl, rfl⟩
                have x3 : wq.cell? ⟨X, 3, none⟩ = some (.slice (some ⟨pr, 0, none⟩) n n) := (H.out.mem.each 3 _ rfl).cell 3
                have pk : wq.cell? ⟨pr, k, none⟩ = some (.pointer (some ⟨g, 0, none⟩)) := (Blk.cell (H.out.mem.each 2 _ rfl) k).trans (pinsA_at (gb_at HP.out))
                go_wp2_with fail
                refine (pn_next qb g wq q (H.out.pinB HP.out)).mono ?_
                rintro e w' ⟨rfl, rfl⟩
                by_cases hph : q.ph = 0
                · have bph : (q.ph != 0) = false := by rw [bne_eq_false_iff_eq]; exact hph
                  have HPH := hid hph
                  clear hph
                  go_wp2_with fail
                  go_roundw
                  case rel => exact ⟨j + 1, by omega, by go_num, _, _, _, _, _, _, _, _, _, (show RunG _ _ _ _ _ _ _ _ _ _ _ _ _ _ _ _ (xpin n k x) _ _ _ _ _ from by rw [xpin_idle H.out HP.out HPH.out]; exact H.out.le (Nat.le_succ j) (by omega)), (show GInv n (j + 1) (xpin n k x) from by rw [show xpin n k x = xpin n k x from rfl]; exact ginv_pin HG.out (by omega) hkn)⟩
                  case measure => simp [intOf]; omega
                · have bph : (q.ph != 0) = true := by rw [bne_iff_ne]; exact hph
                  have HPH := hid hph
                  clear hph
                  go_wp2_with fail
                  refine (pn_step w.heap.size p cb qb g lv x.s (edf n) (pinsV pb n) (gsV gs) q wq H.out.ep (H.out.pinB HP.out) (by rw [HPQ.out.1]; omega) (by omega) H.out.mem.bz (by show q.slot < n; rw [HPQ.out.2.1]; exact hkn) HPQ.out.2.2).mono ?_
                  rintro e w3 ⟨rfl, lv', hE3, hq3, c3, f3⟩
                  obtain ⟨o, ho⟩ : ∃ o, o = pnstep x.s (edf n) q := ⟨_, rfl⟩
                  rw [← ho] at hE3 hq3 ⊢
                  have m3 : Mem w.heap.size w (egL w.heap.size p cb qb pb pr X lb n lv' ov v0 v1 v2 (lbCells v0 v1 v2) o.1 x.fine (gbOf gp) (gbOf gp) (gsV gs) (gsV (gsLive gs)) (gsR qb gs) (lim x.old 0 0) (lim x.old 0 1) (lim x.old 0 2) go.length (goV n go) (((gp).map (gpR qb)).set k (blkR g 117 (pnCells qb g o.2))) (go.map goR)) w3 := H.out.pstepM HP.out hE3 hq3 c3 f3
                  have HL3 := hid (show ((o.1.lg.length : Nat) : Int) = (x.s.lg.length : Int) + 1 by rw [ho, pnstep_ll (HPQ.out.2.2.resolve_left HPH.out)]; push_cast; rfl)
                  have M3 := hid m3
                  have HO := hid ho
                  clear x3 pk hE3 hq3 c3 f3 ho m3
                  have x6 : w3.cell? ⟨X, 6, none⟩ = some (.bool true) := ((M3.out.each 3 _ rfl).cell 6).trans (congrArg (fun b => some (Value.bool b)) HFN.out)
                  have fx6 := Blk.free (M3.out.each 3 _ rfl) 6
                  have x0 : w3.cell? ⟨X, 0, none⟩ = some (.pointer (some ⟨p, 0, none⟩)) := (M3.out.each 3 _ rfl).cell 0
                  go_wp2_with fail
                  refine (len_any w.heap.size p cb lv' o.1 w3 (show EpochM _ _ _ _ _ _ _ _ _ _ from M3.out.each 0 _ rfl).b).mono ?_
                  rintro e w' ⟨rfl, rfl⟩
                  rw [HL3.out]
                  have M5 := hid (show Mem w.heap.size w (egL w.heap.size p cb qb pb pr X lb n lv' ov v0 v1 v2 (lbCells v0 v1 v2) o.1 true (gbOf gp) (gbOf gp) (gsV gs) (gsV (gsLive gs)) (gsR qb gs) (lim x.old 0 0) (lim x.old 0 1) (lim x.old 0 2) go.length (goV n go) (((gp).map (gpR qb)).set k (blkR g 117 (pnCells qb g o.2))) (go.map goR)) (w3.setCell ⟨X, 6, none⟩ (.bool true)) from M3.out.put (i := 3) rfl 6 (.bool true))
                  have M6 := hid (show Mem w.heap.size w (egL w.heap.size p cb qb pb pr X lb n lv' ov v0 v1 v2 (lbCells v0 v1 v2) o.1 x.fine (gbOf gp) (gbOf gp) (gsV gs) (gsV (gsLive gs)) (gsR qb gs) (lim x.old 0 0) (lim x.old 0 1) (lim x.old 0 2) go.length (goV n go) (((gp).map (gpR qb)).set k (blkR g 117 (pnCells qb g o.2))) (go.map goR)) (w3.setCell ⟨X, 6, none⟩ (.bool true)) from by rw [HFN.out]; exact M5.out)
                  clear x0
                  go_wp2_with fail
                  go_roundw
                  case rel => exact ⟨j + 1, by omega, by go_num, _, _, _, _, _, _, _, _, _, H.out.pstep3 (by omega) HP.out HPH.out (by rw [← HO.out]; exact M6.out), (show GInv n (j + 1) (xpin n k x) from by rw [show xpin n k x = xpin n k x from rfl]; exact ginv_pin HG.out (by omega) hkn)⟩
                  case measure => simp [intOf]; omega
        have e0 : (ev.d % 5 == 0) = false := by rw [beq_eq_false_iff_ne]; exact h0
        by_cases h1 : ev.d % 5 = 1
        · have e1 : (ev.d % 5 == 1) = true := by rw [beq_iff_eq]; exact h1
          clear h0 h1 h4
          as_aux_lemma =>
            by_cases hn0 : n = 0
            · have dn : decide (0 < n) = false := decide_eq_false (by omega)
              have dn' : decide ((0 : Int) < (n : Int)) = false := decide_eq_false (by omega)
              have dz : ((n : Int) == 0) = true := by rw [beq_iff_eq]; omega
              have dz' : (n == 0) = true := by rw [beq_iff_eq]; omega
              clear c2 hn0
              go_wp2_with fail
              go_roundw
              case rel => exact ⟨j + 1, by omega, by go_num, _, _, _, _, _, _, _, _, _, H.out.le (Nat.le_succ j) (by omega), HG.out.le (Nat.le_succ j)⟩
              case measure => simp [intOf]; omega
            · obtain ⟨⟨t1, t2⟩, k, hkn, hkk⟩ := slot_of ev.k n (by omega) hn
              have dn : decide (0 < n) = true := decide_eq_true (by omega)
              have dn' : decide ((0 : Int) < (n : Int)) = true := decide_eq_true (by omega)
              have dz : ((n : Int) == 0) = false := by rw [beq_eq_false_iff_ne]; omega
              have dz' : (n == 0) = false := by rw [beq_eq_false_iff_ne]; omega
              have hnz : ¬ (n : Int) = 0 := by omega
              obtain ⟨t, ht⟩ : ∃ t, ev.k.tmod n = t := ⟨_, rfl⟩
              rw [ht] at t1 t2 hkk
              have hpos : 0 ≤ t + (n : Int) := by omega
              have hle : t + (n : Int) ≤ 10 := by omega
              obtain ⟨o, ho⟩ : ∃ o, gp[k]? = some o := ⟨_, List.getElem?_eq_getElem (by rw [H.out.gl]; exact hkn)⟩
              have HP := hid ho
              clear ho
              have x3 : wr.cell? ⟨X, 3, none⟩ = some (.slice (some ⟨pr, 0, none⟩) n n) := (H.out.mem.each 3 _ rfl).cell 3
              have x0 : wr.cell? ⟨X, 0, none⟩ = some (.pointer (some ⟨p, 0, none⟩)) := (H.out.mem.each 3 _ rfl).cell 0
              have hlg := H.out.inv.ll
              have nX1 : X ≠ pr := Blk.ne (H.out.mem.each 3 _ rfl) (H.out.mem.each 2 _ rfl) (by decide)
              have nX2 : pr ≠ X := fun e => nX1 e.symm
              match o, HP with
              | none, HP =>
                have pk : wr.cell? ⟨pr, k, none⟩ = some (.pointer none) := (Blk.cell (H.out.mem.each 2 _ rfl) k).trans (pinsA_at (gb_at HP.out))
                have x1 : wr.cell? ⟨X, 1, none⟩ = some (.pointer (some ⟨qb, 0, none⟩)) := (H.out.mem.each 3 _ rfl).cell 1
                go_wp2_with fail
                clear c0 c2
                refine (pin_ok w.heap.size p cb qb pb lv x.s (edf n) (gsV gs) (gbOf gp) wr H.out.ep (H.out.mem.each 1 _ rfl) H.out.gbl (k : Int) k (ck_ok (by omega) hkn) (gb_at HP.out)).mono ?_
                intro e w2 hb2
                obtain ⟨g, rfl, hm2⟩ := H.out.pbeg hkn hb2
                clear hb2 pk x1 x3 x0
                have x3 : w2.cell? ⟨X, 3, none⟩ = some (.slice (some ⟨pr, 0, none⟩) n n) := (hm2.each 3 _ rfl).cell 3
                have x0 : w2.cell? ⟨X, 0, none⟩ = some (.pointer (some ⟨p, 0, none⟩)) := (hm2.each 3 _ rfl).cell 0
                have pk : w2.cell? ⟨pr, k, none⟩ = some (.pointer none) := (Blk.cell (hm2.each 2 _ rfl) k).trans (pinsA_at (gb_at HP.out))
                have fpk := Blk.free (hm2.each 2 _ rfl) k
                have HR1 := hid (show RunG (gbOf (gp.set k (some (g, pn0 k)))) _ _ _ _ _ _ _ _ _ _ _ _ _ _ _ _ _ _ _ _ (w2.setCell ⟨pr, k, none⟩ (.pointer (some ⟨g, 0, none⟩))) from by
                  have t := hm2.put (i := 2) rfl k (pinV (some g))
                  rw [pinsA_set] at t
                  have t2 := H.out.pbeg2 (rp' := (gbOf gp).set k (some g)) hkn HP.out (g := g) t
                  rw [gb_set]
                  exact t2)
                have M2 := hid hm2
                clear hm2
                have HXE := hid (xpin_begun (n := n) (x := x) (k := k) (by rw [H.out.pin_at HP.out]; rfl) (by rw [H.out.inv.pl]; exact hkn))
                obtain ⟨q, hq0⟩ : ∃ q, q = pn0 k := ⟨_, rfl⟩
                rw [← hq0] at HR1 HXE
                have HP := hid (show (gp.set k (some (g, q)))[k]? = some (some (g, q)) by rw [List.getElem?_set, if_pos rfl, if_pos (by rw [H.out.gl]; exact hkn)])
                clear hq0
                obtain ⟨wq, hwq⟩ : ∃ wq, wq = w2.setCell ⟨pr, k, none⟩ (.pointer (some ⟨g, 0, none⟩)) := ⟨_, rfl⟩
                rw [← hwq] at HR1
                have HWQ := hid hwq
                clear hwq
                go_wp2_with fail
                rw [← HWQ.out]
                clear x0 x3 pk fpk
                have hpq := HR1.out.pinQ HP.out
                have HPQ := hid hpq
                clear hpq
                refine (len_any w.heap.size p cb lv x.s wq HR1.out.ep.b).mono ?_
                rintro e w' ⟨rfl, rfl⟩
                have x3 : wq.cell? ⟨X, 3, none⟩ = some (.slice (some ⟨pr, 0, none⟩) n n) := (HR1.out.mem.each 3 _ rfl).cell 3
                have pk : wq.cell? ⟨pr, k, none⟩ = some (.pointer (some ⟨g, 0, none⟩)) := (Blk.cell (HR1.out.mem.each 2 _ rfl) k).trans (pinsA_at (gb_at HP.out))
                go_wp2_with fail
                refine (pn_next qb g wq q (HR1.out.pinB HP.out)).mono ?_
                rintro e w' ⟨rfl, rfl⟩
                by_cases hph : q.ph = 0
                · have bph : (q.ph != 0) = false := by rw [bne_eq_false_iff_eq]; exact hph
                  have HPH := hid hph
                  clear hph
                  go_wp2_with fail
                  go_roundw
                  case rel => exact ⟨j + 1, by omega, by go_num, _, _, _, _, _, _, _, _, _, (show RunG _ _ _ _ _ _ _ _ _ _ _ _ _ _ _ _ (xpin n k { x with ps := x.ps.set k (some q) }) _ _ _ _ _ from by rw [xpin_idle HR1.out HP.out HPH.out]; exact HR1.out.le (Nat.le_succ j) (by omega)), (show GInv n (j + 1) (xpin n k { x with ps := x.ps.set k (some q) }) from by rw [HXE.out]; exact ginv_pin HG.out (by omega) hkn)⟩
                  case measure => simp [intOf]; omega
                · have bph : (q.ph != 0) = true := by rw [bne_iff_ne]; exact hph
                  have HPH := hid hph
                  clear hph
                  go_wp2_with fail
                  refine (pn_step w.heap.size p cb qb g lv x.s (edf n) (pinsV pb n) (gsV gs) q wq HR1.out.ep (HR1.out.pinB HP.out) (by rw [HPQ.out.1]; omega) (by omega) HR1.out.mem.bz (by show q.slot < n; rw [HPQ.out.2.1]; exact hkn) HPQ.out.2.2).mono ?_
                  rintro e w3 ⟨rfl, lv', hE3, hq3, c3, f3⟩
                  obtain ⟨o, ho⟩ : ∃ o, o = pnstep x.s (edf n) q := ⟨_, rfl⟩
                  rw [← ho] at hE3 hq3 ⊢
                  have m3 : Mem w.heap.size w (egL w.heap.size p cb qb pb pr X lb n lv' ov v0 v1 v2 (lbCells v0 v1 v2) o.1 x.fine (gbOf (gp.set k (some (g, q)))) (gbOf (gp.set k (some (g, q)))) (gsV gs) (gsV (gsLive gs)) (gsR qb gs) (lim x.old 0 0) (lim x.old 0 1) (lim x.old 0 2) go.length (goV n go) (((gp.set k (some (g, q))).map (gpR qb)).set k (blkR g 117 (pnCells qb g o.2))) (go.map goR)) w3 := HR1.out.pstepM HP.out hE3 hq3 c3 f3
                  have HL3 := hid (show ((o.1.lg.length : Nat) : Int) = (x.s.lg.length : Int) + 1 by rw [ho, pnstep_ll (HPQ.out.2.2.resolve_left HPH.out)]; push_cast; rfl)
                  have M3 := hid m3
                  have HO := hid ho
                  clear x3 pk hE3 hq3 c3 f3 ho m3
                  have x6 : w3.cell? ⟨X, 6, none⟩ = some (.bool true) := ((M3.out.each 3 _ rfl).cell 6).trans (congrArg (fun b => some (Value.bool b)) HFN.out)
                  have fx6 := Blk.free (M3.out.each 3 _ rfl) 6
                  have x0 : w3.cell? ⟨X, 0, none⟩ = some (.pointer (some ⟨p, 0, none⟩)) := (M3.out.each 3 _ rfl).cell 0
                  go_wp2_with fail
                  refine (len_any w.heap.size p cb lv' o.1 w3 (show EpochM _ _ _ _ _ _ _ _ _ _ from M3.out.each 0 _ rfl).b).mono ?_
                  rintro e w' ⟨rfl, rfl⟩
                  rw [HL3.out]
                  have M5 := hid (show Mem w.heap.size w (egL w.heap.size p cb qb pb pr X lb n lv' ov v0 v1 v2 (lbCells v0 v1 v2) o.1 true (gbOf (gp.set k (some (g, q)))) (gbOf (gp.set k (some (g, q)))) (gsV gs) (gsV (gsLive gs)) (gsR qb gs) (lim x.old 0 0) (lim x.old 0 1) (lim x.old 0 2) go.length (goV n go) (((gp.set k (some (g, q))).map (gpR qb)).set k (blkR g 117 (pnCells qb g o.2))) (go.map goR)) (w3.setCell ⟨X, 6, none⟩ (.bool true)) from M3.out.put (i := 3) rfl 6 (.bool true))
                  have M6 := hid (show Mem w.heap.size w (egL w.heap.size p cb qb pb pr X lb n lv' ov v0 v1 v2 (lbCells v0 v1 v2) o.1 x.fine (gbOf (gp.set k (some (g, q)))) (gbOf (gp.set k (some (g, q)))) (gsV gs) (gsV (gsLive gs)) (gsR qb gs) (lim x.old 0 0) (lim x.old 0 1) (lim x.old 0 2) go.length (goV n go) (((gp.set k (some (g, q))).map (gpR qb)).set k (blkR g 117 (pnCells qb g o.2))) (go.map goR)) (w3.setCell ⟨X, 6, none⟩ (.bool true)) from by rw [HFN.out]; exact M5.out)
                  clear x0
                  go_wp2_with fail
                  go_roundw
                  case rel => exact ⟨j + 1, by omega, by go_num, _, _, _, _, _, _, _, _, _, HR1.out.pstep3 (by omega) HP.out HPH.out (by rw [← HO.out]; exact M6.out), (show GInv n (j + 1) (xpin n k { x with ps := x.ps.set k (some q) }) from by rw [HXE.out]; exact ginv_pin HG.out (by omega) hkn)⟩
                  case measure => simp [intOf]; omega
              | some (g, q), HP =>
                have pk : wr.cell? ⟨pr, k, none⟩ = some (.pointer (some ⟨g, 0, none⟩)) := (Blk.cell (H.out.mem.each 2 _ rfl) k).trans (pinsA_at (gb_at HP.out))
                go_wp2_with fail
                clear c0 c2 x0 x3 pk
                obtain ⟨wq, hwq⟩ : ∃ wq, wq = wr := ⟨_, rfl⟩
                rw [← hwq] at H ⊢
                clear hwq
                have hpq := H.out.pinQ HP.out
                have HPQ := hid hpq
                clear hpq
                refine (len_any w.heap.size p cb lv x.s wq H.out.ep.b).mono ?_
                rintro e w' ⟨rfl, rfl⟩
                have x3 : wq.cell? ⟨X, 3, none⟩ = some (.slice (some ⟨pr, 0, none⟩) n n) := (H.out.mem.each 3 _ rfl).cell 3
                have pk : wq.cell? ⟨pr, k, none⟩ = some (.pointer (some ⟨g, 0, none⟩)) := (Blk.cell (H.out.mem.each 2 _ rfl) k).trans (pinsA_at (gb_at HP.out))
                go_wp2_with fail
                refine (pn_next qb g wq q (H.out.pinB HP.out)).mono ?_
                rintro e w' ⟨rfl, rfl⟩
                by_cases hph : q.ph = 0
                · have bph : (q.ph != 0) = false := by rw [bne_eq_false_iff_eq]; exact hph
                  have HPH := hid hph
                  clear hph
                  go_wp2_with fail
                  go_roundw
                  case rel => exact ⟨j + 1, by omega, by go_num, _, _, _, _, _, _, _, _, _, (show RunG _ _ _ _ _ _ _ _ _ _ _ _ _ _ _ _ (xpin n k x) _ _ _ _ _ from by rw [xpin_idle H.out HP.out HPH.out]; exact H.out.le (Nat.le_succ j) (by omega)), (show GInv n (j + 1) (xpin n k x) from by rw [show xpin n k x = xpin n k x from rfl]; exact ginv_pin HG.out (by omega) hkn)⟩
                  case measure => simp [intOf]; omega
                · have bph : (q.ph != 0) = true := by rw [bne_iff_ne]; exact hph
                  have HPH := hid hph
                  clear hph
                  go_wp2_with fail
                  refine (pn_step w.heap.size p cb qb g lv x.s (edf n) (pinsV pb n) (gsV gs) q wq H.out.ep (H.out.pinB HP.out) (by rw [HPQ.out.1]; omega) (by omega) H.out.mem.bz (by show q.slot < n; rw [HPQ.out.2.1]; exact hkn) HPQ.out.2.2).mono ?_
                  rintro e w3 ⟨rfl, lv', hE3, hq3, c3, f3⟩
                  obtain ⟨o, ho⟩ : ∃ o, o = pnstep x.s (edf n) q := ⟨_, rfl⟩
                  rw [← ho] at hE3 hq3 ⊢
                  have m3 : Mem w.heap.size w (egL w.heap.size p cb qb pb pr X lb n lv' ov v0 v1 v2 (lbCells v0 v1 v2) o.1 x.fine (gbOf gp) (gbOf gp) (gsV gs) (gsV (gsLive gs)) (gsR qb gs) (lim x.old 0 0) (lim x.old 0 1) (lim x.old 0 2) go.length (goV n go) (((gp).map (gpR qb)).set k (blkR g 117 (pnCells qb g o.2))) (go.map goR)) w3 := H.out.pstepM HP.out hE3 hq3 c3 f3
                  have HL3 := hid (show ((o.1.lg.length : Nat) : Int) = (x.s.lg.length : Int) + 1 by rw [ho, pnstep_ll (HPQ.out.2.2.resolve_left HPH.out)]; push_cast; rfl)
                  have M3 := hid m3
                  have HO := hid ho
                  clear x3 pk hE3 hq3 c3 f3 ho m3
                  have x6 : w3.cell? ⟨X, 6, none⟩ = some (.bool true) := ((M3.out.each 3 _ rfl).cell 6).trans (congrArg (fun b => some (Value.bool b)) HFN.out)
                  have fx6 := Blk.free (M3.out.each 3 _ rfl) 6
                  have x0 : w3.cell? ⟨X, 0, none⟩ = some (.pointer (some ⟨p, 0, none⟩)) := (M3.out.each 3 _ rfl).cell 0
                  go_wp2_with fail
                  refine (len_any w.heap.size p cb lv' o.1 w3 (show EpochM _ _ _ _ _ _ _ _ _ _ from M3.out.each 0 _ rfl).b).mono ?_
                  rintro e w' ⟨rfl, rfl⟩
                  rw [HL3.out]
                  have M5 := hid (show Mem w.heap.size w (egL w.heap.size p cb qb pb pr X lb n lv' ov v0 v1 v2 (lbCells v0 v1 v2) o.1 true (gbOf gp) (gbOf gp) (gsV gs) (gsV (gsLive gs)) (gsR qb gs) (lim x.old 0 0) (lim x.old 0 1) (lim x.old 0 2) go.length (goV n go) (((gp).map (gpR qb)).set k (blkR g 117 (pnCells qb g o.2))) (go.map goR)) (w3.setCell ⟨X, 6, none⟩ (.bool true)) from M3.out.put (i := 3) rfl 6 (.bool true))
                  have M6 := hid (show Mem w.heap.size w (egL w.heap.size p cb qb pb pr X lb n lv' ov v0 v1 v2 (lbCells v0 v1 v2) o.1 x.fine (gbOf gp) (gbOf gp) (gsV gs) (gsV (gsLive gs)) (gsR qb gs) (lim x.old 0 0) (lim x.old 0 1) (lim x.old 0 2) go.length (goV n go) (((gp).map (gpR qb)).set k (blkR g 117 (pnCells qb g o.2))) (go.map goR)) (w3.setCell ⟨X, 6, none⟩ (.bool true)) from by rw [HFN.out]; exact M5.out)
                  clear x0
                  go_wp2_with fail
                  go_roundw
                  case rel => exact ⟨j + 1, by omega, by go_num, _, _, _, _, _, _, _, _, _, H.out.pstep3 (by omega) HP.out HPH.out (by rw [← HO.out]; exact M6.out), (show GInv n (j + 1) (xpin n k x) from by rw [show xpin n k x = xpin n k x from rfl]; exact ginv_pin HG.out (by omega) hkn)⟩
                  case measure => simp [intOf]; omega
        have e1 : (ev.d % 5 == 1) = false := by rw [beq_eq_false_iff_ne]; exact h1
        by_cases h2 : ev.d % 5 = 2
        · have e2 : (ev.d % 5 == 2) = true := by rw [beq_iff_eq]; exact h2
          clear h0 h1 h2 h4
          as_aux_lemma =>
            by_cases hn0 : n = 0
            · have dn : decide (0 < n) = false := decide_eq_false (by omega)
              have dn' : decide ((0 : Int) < (n : Int)) = false := decide_eq_false (by omega)
              have dz : ((n : Int) == 0) = true := by rw [beq_iff_eq]; omega
              have dz' : (n == 0) = true := by rw [beq_iff_eq]; omega
              clear c2 hn0
              go_wp2_with fail
              go_roundw
              case rel => exact ⟨j + 1, by omega, by go_num, _, _, _, _, _, _, _, _, _, H.out.le (Nat.le_succ j) (by omega), HG.out.le (Nat.le_succ j)⟩
              case measure => simp [intOf]; omega
            · obtain ⟨⟨t1, t2⟩, k, hkn, hkk⟩ := slot_of ev.k n (by omega) hn
              have dn : decide (0 < n) = true := decide_eq_true (by omega)
              have dn' : decide ((0 : Int) < (n : Int)) = true := decide_eq_true (by omega)
              have dz : ((n : Int) == 0) = false := by rw [beq_eq_false_iff_ne]; omega
              have dz' : (n == 0) = false := by rw [beq_eq_false_iff_ne]; omega
              have hnz : ¬ (n : Int) = 0 := by omega
              obtain ⟨t, ht⟩ : ∃ t, ev.k.tmod n = t := ⟨_, rfl⟩
              rw [ht] at t1 t2 hkk
              have hpos : 0 ≤ t + (n : Int) := by omega
              have hle : t + (n : Int) ≤ 10 := by omega
              obtain ⟨o, ho⟩ : ∃ o, gp[k]? = some o := ⟨_, List.getElem?_eq_getElem (by rw [H.out.gl]; exact hkn)⟩
              have HP := hid ho
              clear ho
              have x3 : wr.cell? ⟨X, 3, none⟩ = some (.slice (some ⟨pr, 0, none⟩) n n) := (H.out.mem.each 3 _ rfl).cell 3
              match o, HP with
              | none, HP =>
                have pk : wr.cell? ⟨pr, k, none⟩ = some (.pointer none) := (Blk.cell (H.out.mem.each 2 _ rfl) k).trans (pinsA_at (gb_at HP.out))
                go_wp2_with fail
                go_roundw
                case rel => exact ⟨j + 1, by omega, by go_num, _, _, _, _, _, _, _, _, _, H.out.le (Nat.le_succ j) (by omega), HG.out.le (Nat.le_succ j)⟩
                case measure => simp [intOf]; omega
              | some (g, q), HP =>
                have pk : wr.cell? ⟨pr, k, none⟩ = some (.pointer (some ⟨g, 0, none⟩)) := (Blk.cell (H.out.mem.each 2 _ rfl) k).trans (pinsA_at (gb_at HP.out))
                have x1 : wr.cell? ⟨X, 1, none⟩ = some (.pointer (some ⟨qb, 0, none⟩)) := (H.out.mem.each 3 _ rfl).cell 1
                have hpq := H.out.pinQ HP.out
                have HPQ := hid hpq
                clear hpq
                have hlg := H.out.inv.ll
                obtain ⟨Ao, co, hov, hcov⟩ := own_slice (show wr.ownsRow w.heap.size 86 3 ov go.length (goV n go) from H.out.mem.each 8 _ rfl)
                subst hov
                have hom := H.out.om
                go_wp2_with fail
                refine (pn_next qb g wr q (H.out.pinB HP.out)).mono ?_
                rintro e w' ⟨rfl, rfl⟩
                by_cases hph : q.ph = 0
                · have bph : (q.ph != 0) = false := by rw [bne_eq_false_iff_eq]; exact hph
                  have HPH := hid hph
                  clear hph
                  go_wp2_with fail
                  refine (unpin_ok w.heap.size p cb qb pb lv x.s (edf n) (gsV gs) (gbOf gp) wr H.out.ep (H.out.mem.each 1 _ rfl) H.out.gbl (k : Int) (by omega) H.out.mem.bz k (ck_ok (by omega) hkn) g (gb_at HP.out) q (H.out.pinB HP.out) HPH.out).mono ?_
                  rintro e w3 ⟨rfl, lv', hE3, hp3, c3, f3⟩
                  have M3 := hid (H.out.unpinM (by omega) hkn hE3 hp3 c3 f3)
                  clear x3 pk x1 hE3 hp3 c3 f3 c0 c2
                  have x3 : w3.cell? ⟨X, 3, none⟩ = some (.slice (some ⟨pr, 0, none⟩) n n) := (M3.out.each 3 _ rfl).cell 3
                  have pk : w3.cell? ⟨pr, k, none⟩ = some (.pointer (some ⟨g, 0, none⟩)) := (Blk.cell (M3.out.each 2 _ rfl) k).trans (pinsA_at (gb_at HP.out))
                  have fpk := Blk.free (M3.out.each 2 _ rfl) k
                  have HR4 := hid (show RunG (gbOf (gp.set k none)) _ _ _ _ _ _ _ _ _ _ _ _ _ _ _ _ _ _ _ _ (w3.setCell ⟨pr, k, none⟩ (.pointer none)) from by
                    have t := M3.out.put (i := 2) rfl k (pinV none)
                    rw [pinsA_set] at t
                    have t2 := H.out.unpin2 (rp' := (gbOf gp).set k none) (by omega) hkn (lv' := lv') t
                    rw [gb_set]
                    exact t2)
                  go_wp2_with fail
                  obtain ⟨wq, hwq⟩ : ∃ wq, wq = w3.setCell ⟨pr, k, none⟩ (.pointer none) := ⟨_, rfl⟩
                  rw [← hwq] at HR4 ⊢
                  clear hwq x3 pk fpk
                  go_loopw [11] (fun i2 w2r => ∃ q2 : Nat, q2 ≤ go.length ∧ i2 = .int .i64 q2 ∧ Mem w.heap.size w (egL w.heap.size p cb qb pb pr X lb n lv' (.slice Ao go.length co) v0 v1 v2 (lbCells v0 v1 v2) (xunpin0 n k x).s x.fine (gbOf (gp.set k none)) (gbOf (gp.set k none)) (gsV gs) (gsV (gsLive gs)) (gsR qb gs) (lim x.old 0 0) (lim x.old 0 1) (lim x.old 0 2) go.length (goV n go) ((gp.set k none).map (gpR qb)) ((goJ k q2 go).map goR)) w2r) (fun i2 _ => go.length - (intOf i2).toNat)
                  case atStart => exact ⟨0, Nat.zero_le _, rfl, by rw [goJ_zero]; exact HR4.out.mem⟩
                  case round =>
                    obtain ⟨q2, hq2, rfl, hM⟩ := hrel
                    have x5 : wr.cell? ⟨X, 5, none⟩ = some (.slice Ao go.length co) := (hM.each 3 _ rfl).cell 5
                    by_cases hql : q2 < go.length
                    · have d2 : decide (q2 < go.length) = true := decide_eq_true hql
                      have d2' : decide ((q2 : Int) < (go.length : Int)) = true := decide_eq_true (by omega)
                      obtain ⟨y, hy⟩ : ∃ y, go[q2]? = some y := ⟨_, List.getElem?_eq_getElem hql⟩
                      obtain ⟨gr, hgr, _, a1, _⟩ := hM.oldAt hy
                      subst hgr
                      have HY := hid hy
                      have hL9 : ((gp.set k none).map (gpR qb)).length = n := by rw [List.length_map, List.length_set]; exact H.out.gl
                      have hbl := hM.each (10 + n + q2) _ (egL_atO (r := goR y) hL9 (by simp [goJ_at hy]))
                      have zb := Blk.cell hbl k
                      have zf := Blk.free hbl k
                      have hsl : k < y.2.sl.length := by
                        have t := (H.out.inv.ol y.2 (by rw [H.out.old]; exact List.mem_map_of_mem (List.mem_of_getElem? hy))).1
                        omega
                      obtain ⟨zv, zw⟩ : ∃ v, wr.cell? ⟨y.1, k, none⟩ = some v := ⟨_, zb.trans (boolA_at hsl)⟩
                      have HNX := hid (hM.resetJ hL9 hy)
                      clear hM hy hbl zb hsl hL9
                      go_wp2_with fail
                      go_roundw
                      case rel => exact ⟨q2 + 1, by omega, by go_num, HNX.out⟩
                      case measure => simp [intOf]; omega
                    · have hqn : q2 = go.length := by omega
                      subst hqn
                      have d2 : decide (go.length < go.length) = false := decide_eq_false (by omega)
                      have d2' : decide ((go.length : Int) < (go.length : Int)) = false := decide_eq_false (by omega)
                      have MI := hid hM
                      clear hM
                      go_wp2_with fail
                      go_roundw
                      case rel => exact ⟨j + 1, by omega, by go_num, _, _, _, _, _, _, _, _, _, HR4.out.reset (ginv_unpin HG.out hkn).toEInv MI.out, ginv_unpin HG.out hkn⟩
                      case measure => simp [intOf]; omega
                · have bph : (q.ph != 0) = true := by rw [bne_iff_ne]; exact hph
                  clear hph
                  go_wp2_with fail
                  go_roundw
                  case rel => exact ⟨j + 1, by omega, by go_num, _, _, _, _, _, _, _, _, _, H.out.le (Nat.le_succ j) (by omega), HG.out.le (Nat.le_succ j)⟩
                  case measure => simp [intOf]; omega
        have e2 : (ev.d % 5 == 2) = false := by rw [beq_eq_false_iff_ne]; exact h2
        have h3 : ev.d % 5 = 3 := by omega
        have e3 : (ev.d % 5 == 3) = true := by rw [beq_iff_eq]; exact h3
        clear h0 h1 h2 h3 h4
        as_aux_lemma =>
          by_cases hn0 : n = 0
          · have dn : decide (0 < n) = false := decide_eq_false (by omega)
            have dn' : decide ((0 : Int) < (n : Int)) = false := decide_eq_false (by omega)
            have dz : ((n : Int) == 0) = true := by rw [beq_iff_eq]; omega
            have dz' : (n == 0) = true := by rw [beq_iff_eq]; omega
            clear c2 hn0
            obtain ⟨Ao, co, hov, hcov⟩ := own_slice (show wr.ownsRow w.heap.size 86 3 ov go.length (goV n go) from H.out.mem.each 8 _ rfl)
            subst hov
            have hom := H.out.om
            have hmk : ∀ W : World, (Instr.makeSlice 84 (.int .i64 (n : Int)) (.int .i64 (n : Int))).run Try.prog W = .ok (.slice (some ⟨W.heap.size, 0, none⟩) n n) (W.alloc (.cells (madeX (Value.cells (.bool false)) (n * 1)) 4)) := fun W => run_make_x (P := Try.prog) 84 4 (.bool false) 1 1 Try.underlying84 (by kernel_rfl) (by decide) n (by omega) W
            have x1 : wr.cell? ⟨X, 1, none⟩ = some (.pointer (some ⟨qb, 0, none⟩)) := (H.out.mem.each 3 _ rfl).cell 1
            obtain ⟨S, hS⟩ : ∃ S : Nat → Prop, ∀ k, S k ↔ k < wr.heap.size := ⟨_, fun _ => Iff.rfl⟩
            have hS1 : Mix.Has S X := (hS _).2 (Blk.lt (H.out.mem.each 3 _ rfl))
            have HS := hid hS
            have EE := hid H.out.ep
            have CC := hid (Ch.refl (fun _ => False) wr)
            clear hS
            go_wp2_with fail
            refine Mix.wp_region_XJ S (fun i => ([1, 1, 1, 4, 0, 1, 3, 1, 3, 2] : List Nat).getD i 0) (fun a0 a' w' => ∃ ms D, a' = ((((((((((a0.put (some 181) (.pointer (some ⟨X, 0, none⟩))).put (some 182) (.pointer (some ⟨X, 0, none⟩))).put (some 183) (.pointer (some ⟨X, 1, none⟩))).put (some 184) (.pointer (some ⟨qb, 0, none⟩))).put (some 185) (.int .u64 x.now)).put (some 186) (.int .i64 n)).put (some 187) (.slice (some ⟨ms, 0, none⟩) n n)).put (some 188) (.agg #[.int .u64 x.now, .slice (some ⟨ms, 0, none⟩) n n, .bool false])).put (some 12) (.pointer (some ⟨D, 0, none⟩)))) ∧ Blk w' D 86 #[.int .u64 x.now, .slice (some ⟨ms, 0, none⟩) n n, .bool false] ∧ Blk w' ms 4 (madeX #[.bool false] n) ∧ Ch (fun _ => False) wr w' ∧ wr.heap.size ≤ ms ∧ wr.heap.size ≤ D) (by kernel_rfl) ?_ ?_
            · refine Mix.wpX_prefix (fuel := 5) (by kernel_rfl) [0, 1, 2, 3, 5] _ _ _ (by kernel_rfl) ?_
              repeat (first | (refine Mix.mix_p (by simp only [List.getElem?_toArray, List.getElem?_cons_zero, List.getElem?_cons_succ]; exact rfl) rfl rfl ?_; go_big_quiet_step (fail); refine wpQuiet_nil ?_) | (refine Mix.mix_s (by simp only [List.getElem?_toArray, List.getElem?_cons_zero, List.getElem?_cons_succ]; exact rfl) rfl rfl ?_; go_big_quiet_step (fail); refine wpQuiet_nil ?_))
              intro m0
              refine Mix.wpX_world fun V0 hV0 => ?_
              have E0 := hid (show EpochM w.heap.size V0 p cb qb lv x.s (edf n) (pinsV pb n) (gsV gs) from hV0 ▸ EE.out.drewN m0)
              have C0 := hid (show Ch (fun _ => False) wr V0 from hV0 ▸ CC.out.drewN m0)
              clear hV0 x1 c0
              refine Mix.wpX_three 4 6 8 (by kernel_rfl) ?_ ?_ ?_
              · (refine Mix.mix_q (by simp only [List.getElem?_toArray, List.getElem?_cons_zero, List.getElem?_cons_succ]; exact rfl) rfl ?_; go_big_quiet_step ((go_at_call 17; exact eg_now_q E0.out _)); refine wpQuiet_nil ?_)
                intro m1
                refine Mix.wpX_world fun V1 hV1 => ?_
                have E1 := hid (show EpochM w.heap.size V1 p cb qb lv x.s (edf n) (pinsV pb n) (gsV gs) from hV1 ▸ E0.out.drewN m1)
                have C1 := hid (show Ch (fun _ => False) wr V1 from hV1 ▸ C0.out.drewN m1)
                clear hV1
                refine Mix.wpX_two 6 8 (by kernel_rfl) ?_ ?_
                · refine Mix.mix_a (by simp only [List.getElem?_toArray, List.getElem?_cons_zero, List.getElem?_cons_succ]; exact rfl) rfl fun W2 hW2 => ?_
                  obtain ⟨n2, rfl⟩ := hW2
                  go_wp2_with fail
                  refine ⟨fun j' hj' => ((((Ch.refl (fun _ => False) V1).drewN n2).alloc _).block j' (Nat.lt_of_lt_of_le ((HS.out j').1 hj') C1.out.size) id), ?_⟩
                  intro m2
                  refine Mix.wpX_world fun V2 hV2 => ?_
                  have hv2 : V2 = ((V1.drewN n2).alloc (.cells (madeX #[.bool false] n) 4)).drewN m2 := by rw [hV2]
                  clear hV2
                  have E2 := hid (show EpochM w.heap.size V2 p cb qb lv x.s (edf n) (pinsV pb n) (gsV gs) from hv2 ▸ (((E1.out.drewN n2).keep ((Ch.refl _ _).alloc _)).drewN m2))
                  have C2 := hid (show Ch (fun _ => False) wr V2 from hv2 ▸ (((C1.out.drewN n2).alloc _).drewN m2))
                  have MS2 := hid (show Blk V2 V1.heap.size 4 (madeX #[.bool false] n) from hv2 ▸ ((Blk.new (V1.drewN n2) _ _).drewN m2))
                  clear hv2
                  refine Mix.wpX_prefix (fuel := 2) (by kernel_rfl) [8] _ _ _ (by kernel_rfl) ?_
                  refine Mix.mix_a (by simp only [List.getElem?_toArray, List.getElem?_cons_zero, List.getElem?_cons_succ]; exact rfl) rfl fun W3 hW3 => ?_
                  obtain ⟨n3, rfl⟩ := hW3
                  go_wp2_with fail
                  refine ⟨fun j' hj' => ((((Ch.refl (fun _ => False) V2).drewN n3).alloc _).block j' (Nat.lt_of_lt_of_le ((HS.out j').1 hj') C2.out.size) id), ?_⟩
                  intro m3
                  refine Mix.wpX_world fun V3 hV3 => ?_
                  have hv3 : V3 = ((V2.drewN n3).alloc (.cells #[.int .u64 0, .slice none 0 0, .bool false] 86)).drewN m3 := by rw [hV3]
                  clear hV3
                  have E3 := hid (show EpochM w.heap.size V3 p cb qb lv x.s (edf n) (pinsV pb n) (gsV gs) from hv3 ▸ (((E2.out.drewN n3).keep ((Ch.refl _ _).alloc _)).drewN m3))
                  have C3 := hid (show Ch (fun _ => False) wr V3 from hv3 ▸ (((C2.out.drewN n3).alloc _).drewN m3))
                  have DD3 := hid (show Blk V3 V2.heap.size 86 #[.int .u64 0, .slice none 0 0, .bool false] from hv3 ▸ ((Blk.new (V2.drewN n3) _ _).drewN m3))
                  have MS3 := hid (show Blk V3 V1.heap.size 4 (madeX #[.bool false] n) from hv3 ▸ (((MS2.out.drewN n3).alloc _).drewN m3))
                  clear hv3
                  refine Mix.wpX_prefix (fuel := 0) (by kernel_rfl) [7, 9] _ _ _ (by kernel_rfl) ?_
                  (refine Mix.mix_p (by simp only [List.getElem?_toArray, List.getElem?_cons_zero, List.getElem?_cons_succ]; exact rfl) rfl rfl ?_; go_big_quiet_step (fail); refine wpQuiet_nil ?_)
                  have qd0 := DD3.out.cell 0
                  have qd1 := DD3.out.cell 1
                  have qd2 := DD3.out.cell 2
                  have qf0 := DD3.out.free 0
                  have qf1 := DD3.out.free 1
                  have qf2 := DD3.out.free 2
                  refine Mix.mix_e (by simp only [List.getElem?_toArray, List.getElem?_cons_zero, List.getElem?_cons_succ]; exact rfl) rfl fun W4 hW4 => ?_
                  obtain ⟨n4, rfl⟩ := hW4
                  go_wp2_with fail
                  intro m4
                  refine Mix.wpX_world fun V4 hV4 => ?_
                  have F1 := hid (show Blk V4 (V2.heap.size) 86 #[.int .u64 x.now, .slice (some ⟨V1.heap.size, 0, none⟩) n n, .bool false] from hV4 ▸ (((((DD3.out.drewN n4).put 0 _).put 1 _).put 2 _).drewN m4))
                  have F2 := hid (show Blk V4 (V1.heap.size) 4 (madeX #[.bool false] n) from hV4 ▸ (((((MS3.out.drewN n4).far (Blk.ne MS3.out DD3.out (by decide)) _).far (Blk.ne MS3.out DD3.out (by decide)) _).far (Blk.ne MS3.out DD3.out (by decide)) _).drewN m4))
                  have F3 := hid (show Ch (fun _ => False) wr V4 from hV4 ▸ (((((C3.out.drewN n4).set (fun ho => absurd (Nat.lt_of_lt_of_le ho C2.out.size) (Nat.lt_irrefl _)) _).set (fun ho => absurd (Nat.lt_of_lt_of_le ho C2.out.size) (Nat.lt_irrefl _)) _).set (fun ho => absurd (Nat.lt_of_lt_of_le ho C2.out.size) (Nat.lt_irrefl _)) _).drewN m4))
                  clear hV4 qd0 qd1 qd2 qf0 qf1 qf2
                  refine Mix.wpX_done (by kernel_rfl) ?_
                  intro z4
                  refine ⟨V1.heap.size, V2.heap.size, ?_, F1.out.drewN z4, F2.out.drewN z4, F3.out.drewN z4, C1.out.size, C2.out.size⟩
                  simp only [Act.put, List.setIfInBounds_toArray, List.set_cons_succ, List.set_cons_zero]
                · refine Mix.mix_a (by simp only [List.getElem?_toArray, List.getElem?_cons_zero, List.getElem?_cons_succ]; exact rfl) rfl fun W5 hW5 => ?_
                  obtain ⟨n5, rfl⟩ := hW5
                  go_wp2_with fail
                  refine ⟨fun j' hj' => ((((Ch.refl (fun _ => False) V1).drewN n5).alloc _).block j' (Nat.lt_of_lt_of_le ((HS.out j').1 hj') C1.out.size) id), ?_⟩
                  intro m5
                  refine Mix.wpX_world fun V5 hV5 => ?_
                  have hv5 : V5 = ((V1.drewN n5).alloc (.cells #[.int .u64 0, .slice none 0 0, .bool false] 86)).drewN m5 := by rw [hV5]
                  clear hV5
                  have E5 := hid (show EpochM w.heap.size V5 p cb qb lv x.s (edf n) (pinsV pb n) (gsV gs) from hv5 ▸ (((E1.out.drewN n5).keep ((Ch.refl _ _).alloc _)).drewN m5))
                  have C5 := hid (show Ch (fun _ => False) wr V5 from hv5 ▸ (((C1.out.drewN n5).alloc _).drewN m5))
                  have DD5 := hid (show Blk V5 V1.heap.size 86 #[.int .u64 0, .slice none 0 0, .bool false] from hv5 ▸ ((Blk.new (V1.drewN n5) _ _).drewN m5))
                  clear hv5
                  refine Mix.wpX_prefix (fuel := 2) (by kernel_rfl) [6] _ _ _ (by kernel_rfl) ?_
                  refine Mix.mix_a (by simp only [List.getElem?_toArray, List.getElem?_cons_zero, List.getElem?_cons_succ]; exact rfl) rfl fun W6 hW6 => ?_
                  obtain ⟨n6, rfl⟩ := hW6
                  go_wp2_with fail
                  refine ⟨fun j' hj' => ((((Ch.refl (fun _ => False) V5).drewN n6).alloc _).block j' (Nat.lt_of_lt_of_le ((HS.out j').1 hj') C5.out.size) id), ?_⟩
                  intro m6
                  refine Mix.wpX_world fun V6 hV6 => ?_
                  have hv6 : V6 = ((V5.drewN n6).alloc (.cells (madeX #[.bool false] n) 4)).drewN m6 := by rw [hV6]
                  clear hV6
                  have E6 := hid (show EpochM w.heap.size V6 p cb qb lv x.s (edf n) (pinsV pb n) (gsV gs) from hv6 ▸ (((E5.out.drewN n6).keep ((Ch.refl _ _).alloc _)).drewN m6))
                  have C6 := hid (show Ch (fun _ => False) wr V6 from hv6 ▸ (((C5.out.drewN n6).alloc _).drewN m6))
                  have MS6 := hid (show Blk V6 V5.heap.size 4 (madeX #[.bool false] n) from hv6 ▸ ((Blk.new (V5.drewN n6) _ _).drewN m6))
                  have DD6 := hid (show Blk V6 V1.heap.size 86 #[.int .u64 0, .slice none 0 0, .bool false] from hv6 ▸ (((DD5.out.drewN n6).alloc _).drewN m6))
                  clear hv6
                  refine Mix.wpX_prefix (fuel := 0) (by kernel_rfl) [7, 9] _ _ _ (by kernel_rfl) ?_
                  (refine Mix.mix_p (by simp only [List.getElem?_toArray, List.getElem?_cons_zero, List.getElem?_cons_succ]; exact rfl) rfl rfl ?_; go_big_quiet_step (fail); refine wpQuiet_nil ?_)
                  have qd0 := DD6.out.cell 0
                  have qd1 := DD6.out.cell 1
                  have qd2 := DD6.out.cell 2
                  have qf0 := DD6.out.free 0
                  have qf1 := DD6.out.free 1
                  have qf2 := DD6.out.free 2
                  refine Mix.mix_e (by simp only [List.getElem?_toArray, List.getElem?_cons_zero, List.getElem?_cons_succ]; exact rfl) rfl fun W7 hW7 => ?_
                  obtain ⟨n7, rfl⟩ := hW7
                  go_wp2_with fail
                  intro m7
                  refine Mix.wpX_world fun V7 hV7 => ?_
                  have F1 := hid (show Blk V7 (V1.heap.size) 86 #[.int .u64 x.now, .slice (some ⟨V5.heap.size, 0, none⟩) n n, .bool false] from hV7 ▸ (((((DD6.out.drewN n7).put 0 _).put 1 _).put 2 _).drewN m7))
                  have F2 := hid (show Blk V7 (V5.heap.size) 4 (madeX #[.bool false] n) from hV7 ▸ (((((MS6.out.drewN n7).far (Blk.ne MS6.out DD6.out (by decide)) _).far (Blk.ne MS6.out DD6.out (by decide)) _).far (Blk.ne MS6.out DD6.out (by decide)) _).drewN m7))
                  have F3 := hid (show Ch (fun _ => False) wr V7 from hV7 ▸ (((((C6.out.drewN n7).set (fun ho => absurd (Nat.lt_of_lt_of_le ho C1.out.size) (Nat.lt_irrefl _)) _).set (fun ho => absurd (Nat.lt_of_lt_of_le ho C1.out.size) (Nat.lt_irrefl _)) _).set (fun ho => absurd (Nat.lt_of_lt_of_le ho C1.out.size) (Nat.lt_irrefl _)) _).drewN m7))
                  clear hV7 qd0 qd1 qd2 qf0 qf1 qf2
                  refine Mix.wpX_done (by kernel_rfl) ?_
                  intro z7
                  refine ⟨V5.heap.size, V1.heap.size, ?_, F1.out.drewN z7, F2.out.drewN z7, F3.out.drewN z7, C5.out.size, C1.out.size⟩
                  simp only [Act.put, List.setIfInBounds_toArray, List.set_cons_succ, List.set_cons_zero]
              · refine Mix.mix_a (by simp only [List.getElem?_toArray, List.getElem?_cons_zero, List.getElem?_cons_succ]; exact rfl) rfl fun W8 hW8 => ?_
                obtain ⟨n8, rfl⟩ := hW8
                go_wp2_with fail
                refine ⟨fun j' hj' => ((((Ch.refl (fun _ => False) V0).drewN n8).alloc _).block j' (Nat.lt_of_lt_of_le ((HS.out j').1 hj') C0.out.size) id), ?_⟩
                intro m8
                refine Mix.wpX_world fun V8 hV8 => ?_
                have hv8 : V8 = ((V0.drewN n8).alloc (.cells (madeX #[.bool false] n) 4)).drewN m8 := by rw [hV8]
                clear hV8
                have E8 := hid (show EpochM w.heap.size V8 p cb qb lv x.s (edf n) (pinsV pb n) (gsV gs) from hv8 ▸ (((E0.out.drewN n8).keep ((Ch.refl _ _).alloc _)).drewN m8))
                have C8 := hid (show Ch (fun _ => False) wr V8 from hv8 ▸ (((C0.out.drewN n8).alloc _).drewN m8))
                have MS8 := hid (show Blk V8 V0.heap.size 4 (madeX #[.bool false] n) from hv8 ▸ ((Blk.new (V0.drewN n8) _ _).drewN m8))
                clear hv8
                refine Mix.wpX_two 4 8 (by kernel_rfl) ?_ ?_
                · (refine Mix.mix_q (by simp only [List.getElem?_toArray, List.getElem?_cons_zero, List.getElem?_cons_succ]; exact rfl) rfl ?_; go_big_quiet_step ((go_at_call 17; exact eg_now_q E8.out _)); refine wpQuiet_nil ?_)
                  intro m9
                  refine Mix.wpX_world fun V9 hV9 => ?_
                  have E9 := hid (show EpochM w.heap.size V9 p cb qb lv x.s (edf n) (pinsV pb n) (gsV gs) from hV9 ▸ E8.out.drewN m9)
                  have C9 := hid (show Ch (fun _ => False) wr V9 from hV9 ▸ C8.out.drewN m9)
                  have MS9 := hid (show Blk V9 V0.heap.size 4 (madeX #[.bool false] n) from hV9 ▸ MS8.out.drewN m9)
                  clear hV9
                  refine Mix.wpX_prefix (fuel := 2) (by kernel_rfl) [8] _ _ _ (by kernel_rfl) ?_
                  refine Mix.mix_a (by simp only [List.getElem?_toArray, List.getElem?_cons_zero, List.getElem?_cons_succ]; exact rfl) rfl fun W10 hW10 => ?_
                  obtain ⟨n10, rfl⟩ := hW10
                  go_wp2_with fail
                  refine ⟨fun j' hj' => ((((Ch.refl (fun _ => False) V9).drewN n10).alloc _).block j' (Nat.lt_of_lt_of_le ((HS.out j').1 hj') C9.out.size) id), ?_⟩
                  intro m10
                  refine Mix.wpX_world fun V10 hV10 => ?_
                  have hv10 : V10 = ((V9.drewN n10).alloc (.cells #[.int .u64 0, .slice none 0 0, .bool false] 86)).drewN m10 := by rw [hV10]
                  clear hV10
                  have E10 := hid (show EpochM w.heap.size V10 p cb qb lv x.s (edf n) (pinsV pb n) (gsV gs) from hv10 ▸ (((E9.out.drewN n10).keep ((Ch.refl _ _).alloc _)).drewN m10))
                  have C10 := hid (show Ch (fun _ => False) wr V10 from hv10 ▸ (((C9.out.drewN n10).alloc _).drewN m10))
                  have DD10 := hid (show Blk V10 V9.heap.size 86 #[.int .u64 0, .slice none 0 0, .bool false] from hv10 ▸ ((Blk.new (V9.drewN n10) _ _).drewN m10))
                  have MS10 := hid (show Blk V10 V0.heap.size 4 (madeX #[.bool false] n) from hv10 ▸ (((MS9.out.drewN n10).alloc _).drewN m10))
                  clear hv10
                  refine Mix.wpX_prefix (fuel := 0) (by kernel_rfl) [7, 9] _ _ _ (by kernel_rfl) ?_
                  (refine Mix.mix_p (by simp only [List.getElem?_toArray, List.getElem?_cons_zero, List.getElem?_cons_succ]; exact rfl) rfl rfl ?_; go_big_quiet_step (fail); refine wpQuiet_nil ?_)
                  have qd0 := DD10.out.cell 0
                  have qd1 := DD10.out.cell 1
                  have qd2 := DD10.out.cell 2
                  have qf0 := DD10.out.free 0
                  have qf1 := DD10.out.free 1
                  have qf2 := DD10.out.free 2
                  refine Mix.mix_e (by simp only [List.getElem?_toArray, List.getElem?_cons_zero, List.getElem?_cons_succ]; exact rfl) rfl fun W11 hW11 => ?_
                  obtain ⟨n11, rfl⟩ := hW11
                  go_wp2_with fail
                  intro m11
                  refine Mix.wpX_world fun V11 hV11 => ?_
                  have F1 := hid (show Blk V11 (V9.heap.size) 86 #[.int .u64 x.now, .slice (some ⟨V0.heap.size, 0, none⟩) n n, .bool false] from hV11 ▸ (((((DD10.out.drewN n11).put 0 _).put 1 _).put 2 _).drewN m11))
                  have F2 := hid (show Blk V11 (V0.heap.size) 4 (madeX #[.bool false] n) from hV11 ▸ (((((MS10.out.drewN n11).far (Blk.ne MS10.out DD10.out (by decide)) _).far (Blk.ne MS10.out DD10.out (by decide)) _).far (Blk.ne MS10.out DD10.out (by decide)) _).drewN m11))
                  have F3 := hid (show Ch (fun _ => False) wr V11 from hV11 ▸ (((((C10.out.drewN n11).set (fun ho => absurd (Nat.lt_of_lt_of_le ho C9.out.size) (Nat.lt_irrefl _)) _).set (fun ho => absurd (Nat.lt_of_lt_of_le ho C9.out.size) (Nat.lt_irrefl _)) _).set (fun ho => absurd (Nat.lt_of_lt_of_le ho C9.out.size) (Nat.lt_irrefl _)) _).drewN m11))
                  clear hV11 qd0 qd1 qd2 qf0 qf1 qf2
                  refine Mix.wpX_done (by kernel_rfl) ?_
                  intro z11
                  refine ⟨V0.heap.size, V9.heap.size, ?_, F1.out.drewN z11, F2.out.drewN z11, F3.out.drewN z11, C0.out.size, C9.out.size⟩
                  simp only [Act.put, List.setIfInBounds_toArray, List.set_cons_succ, List.set_cons_zero]
                · refine Mix.mix_a (by simp only [List.getElem?_toArray, List.getElem?_cons_zero, List.getElem?_cons_succ]; exact rfl) rfl fun W12 hW12 => ?_
                  obtain ⟨n12, rfl⟩ := hW12
                  go_wp2_with fail
                  refine ⟨fun j' hj' => ((((Ch.refl (fun _ => False) V8).drewN n12).alloc _).block j' (Nat.lt_of_lt_of_le ((HS.out j').1 hj') C8.out.size) id), ?_⟩
                  intro m12
                  refine Mix.wpX_world fun V12 hV12 => ?_
                  have hv12 : V12 = ((V8.drewN n12).alloc (.cells #[.int .u64 0, .slice none 0 0, .bool false] 86)).drewN m12 := by rw [hV12]
                  clear hV12
                  have E12 := hid (show EpochM w.heap.size V12 p cb qb lv x.s (edf n) (pinsV pb n) (gsV gs) from hv12 ▸ (((E8.out.drewN n12).keep ((Ch.refl _ _).alloc _)).drewN m12))
                  have C12 := hid (show Ch (fun _ => False) wr V12 from hv12 ▸ (((C8.out.drewN n12).alloc _).drewN m12))
                  have DD12 := hid (show Blk V12 V8.heap.size 86 #[.int .u64 0, .slice none 0 0, .bool false] from hv12 ▸ ((Blk.new (V8.drewN n12) _ _).drewN m12))
                  have MS12 := hid (show Blk V12 V0.heap.size 4 (madeX #[.bool false] n) from hv12 ▸ (((MS8.out.drewN n12).alloc _).drewN m12))
                  clear hv12
                  refine Mix.wpX_prefix (fuel := 2) (by kernel_rfl) [4] _ _ _ (by kernel_rfl) ?_
                  (refine Mix.mix_q (by simp only [List.getElem?_toArray, List.getElem?_cons_zero, List.getElem?_cons_succ]; exact rfl) rfl ?_; go_big_quiet_step ((go_at_call 17; exact eg_now_q E12.out _)); refine wpQuiet_nil ?_)
                  intro m13
                  refine Mix.wpX_world fun V13 hV13 => ?_
                  have E13 := hid (show EpochM w.heap.size V13 p cb qb lv x.s (edf n) (pinsV pb n) (gsV gs) from hV13 ▸ E12.out.drewN m13)
                  have C13 := hid (show Ch (fun _ => False) wr V13 from hV13 ▸ C12.out.drewN m13)
                  have MS13 := hid (show Blk V13 V0.heap.size 4 (madeX #[.bool false] n) from hV13 ▸ MS12.out.drewN m13)
                  have DD13 := hid (show Blk V13 V8.heap.size 86 #[.int .u64 0, .slice none 0 0, .bool false] from hV13 ▸ DD12.out.drewN m13)
                  clear hV13
                  refine Mix.wpX_prefix (fuel := 0) (by kernel_rfl) [7, 9] _ _ _ (by kernel_rfl) ?_
                  (refine Mix.mix_p (by simp only [List.getElem?_toArray, List.getElem?_cons_zero, List.getElem?_cons_succ]; exact rfl) rfl rfl ?_; go_big_quiet_step (fail); refine wpQuiet_nil ?_)
                  have qd0 := DD13.out.cell 0
                  have qd1 := DD13.out.cell 1
                  have qd2 := DD13.out.cell 2
                  have qf0 := DD13.out.free 0
                  have qf1 := DD13.out.free 1
                  have qf2 := DD13.out.free 2
                  refine Mix.mix_e (by simp only [List.getElem?_toArray, List.getElem?_cons_zero, List.getElem?_cons_succ]; exact rfl) rfl fun W14 hW14 => ?_
                  obtain ⟨n14, rfl⟩ := hW14
                  go_wp2_with fail
                  intro m14
                  refine Mix.wpX_world fun V14 hV14 => ?_
                  have F1 := hid (show Blk V14 (V8.heap.size) 86 #[.int .u64 x.now, .slice (some ⟨V0.heap.size, 0, none⟩) n n, .bool false] from hV14 ▸ (((((DD13.out.drewN n14).put 0 _).put 1 _).put 2 _).drewN m14))
                  have F2 := hid (show Blk V14 (V0.heap.size) 4 (madeX #[.bool false] n) from hV14 ▸ (((((MS13.out.drewN n14).far (Blk.ne MS13.out DD13.out (by decide)) _).far (Blk.ne MS13.out DD13.out (by decide)) _).far (Blk.ne MS13.out DD13.out (by decide)) _).drewN m14))
                  have F3 := hid (show Ch (fun _ => False) wr V14 from hV14 ▸ (((((C13.out.drewN n14).set (fun ho => absurd (Nat.lt_of_lt_of_le ho C8.out.size) (Nat.lt_irrefl _)) _).set (fun ho => absurd (Nat.lt_of_lt_of_le ho C8.out.size) (Nat.lt_irrefl _)) _).set (fun ho => absurd (Nat.lt_of_lt_of_le ho C8.out.size) (Nat.lt_irrefl _)) _).drewN m14))
                  clear hV14 qd0 qd1 qd2 qf0 qf1 qf2
                  refine Mix.wpX_done (by kernel_rfl) ?_
                  intro z14
                  refine ⟨V0.heap.size, V8.heap.size, ?_, F1.out.drewN z14, F2.out.drewN z14, F3.out.drewN z14, C0.out.size, C8.out.size⟩
                  simp only [Act.put, List.setIfInBounds_toArray, List.set_cons_succ, List.set_cons_zero]
              · refine Mix.mix_a (by simp only [List.getElem?_toArray, List.getElem?_cons_zero, List.getElem?_cons_succ]; exact rfl) rfl fun W15 hW15 => ?_
                obtain ⟨n15, rfl⟩ := hW15
                go_wp2_with fail
                refine ⟨fun j' hj' => ((((Ch.refl (fun _ => False) V0).drewN n15).alloc _).block j' (Nat.lt_of_lt_of_le ((HS.out j').1 hj') C0.out.size) id), ?_⟩
                intro m15
                refine Mix.wpX_world fun V15 hV15 => ?_
                have hv15 : V15 = ((V0.drewN n15).alloc (.cells #[.int .u64 0, .slice none 0 0, .bool false] 86)).drewN m15 := by rw [hV15]
                clear hV15
                have E15 := hid (show EpochM w.heap.size V15 p cb qb lv x.s (edf n) (pinsV pb n) (gsV gs) from hv15 ▸ (((E0.out.drewN n15).keep ((Ch.refl _ _).alloc _)).drewN m15))
                have C15 := hid (show Ch (fun _ => False) wr V15 from hv15 ▸ (((C0.out.drewN n15).alloc _).drewN m15))
                have DD15 := hid (show Blk V15 V0.heap.size 86 #[.int .u64 0, .slice none 0 0, .bool false] from hv15 ▸ ((Blk.new (V0.drewN n15) _ _).drewN m15))
                clear hv15
                refine Mix.wpX_two 4 6 (by kernel_rfl) ?_ ?_
                · (refine Mix.mix_q (by simp only [List.getElem?_toArray, List.getElem?_cons_zero, List.getElem?_cons_succ]; exact rfl) rfl ?_; go_big_quiet_step ((go_at_call 17; exact eg_now_q E15.out _)); refine wpQuiet_nil ?_)
                  intro m16
                  refine Mix.wpX_world fun V16 hV16 => ?_
                  have E16 := hid (show EpochM w.heap.size V16 p cb qb lv x.s (edf n) (pinsV pb n) (gsV gs) from hV16 ▸ E15.out.drewN m16)
                  have C16 := hid (show Ch (fun _ => False) wr V16 from hV16 ▸ C15.out.drewN m16)
                  have DD16 := hid (show Blk V16 V0.heap.size 86 #[.int .u64 0, .slice none 0 0, .bool false] from hV16 ▸ DD15.out.drewN m16)
                  clear hV16
                  refine Mix.wpX_prefix (fuel := 2) (by kernel_rfl) [6] _ _ _ (by kernel_rfl) ?_
                  refine Mix.mix_a (by simp only [List.getElem?_toArray, List.getElem?_cons_zero, List.getElem?_cons_succ]; exact rfl) rfl fun W17 hW17 => ?_
                  obtain ⟨n17, rfl⟩ := hW17
                  go_wp2_with fail
                  refine ⟨fun j' hj' => ((((Ch.refl (fun _ => False) V16).drewN n17).alloc _).block j' (Nat.lt_of_lt_of_le ((HS.out j').1 hj') C16.out.size) id), ?_⟩
                  intro m17
                  refine Mix.wpX_world fun V17 hV17 => ?_
                  have hv17 : V17 = ((V16.drewN n17).alloc (.cells (madeX #[.bool false] n) 4)).drewN m17 := by rw [hV17]
                  clear hV17
                  have E17 := hid (show EpochM w.heap.size V17 p cb qb lv x.s (edf n) (pinsV pb n) (gsV gs) from hv17 ▸ (((E16.out.drewN n17).keep ((Ch.refl _ _).alloc _)).drewN m17))
                  have C17 := hid (show Ch (fun _ => False) wr V17 from hv17 ▸ (((C16.out.drewN n17).alloc _).drewN m17))
                  have MS17 := hid (show Blk V17 V16.heap.size 4 (madeX #[.bool false] n) from hv17 ▸ ((Blk.new (V16.drewN n17) _ _).drewN m17))
                  have DD17 := hid (show Blk V17 V0.heap.size 86 #[.int .u64 0, .slice none 0 0, .bool false] from hv17 ▸ (((DD16.out.drewN n17).alloc _).drewN m17))
                  clear hv17
                  refine Mix.wpX_prefix (fuel := 0) (by kernel_rfl) [7, 9] _ _ _ (by kernel_rfl) ?_
                  (refine Mix.mix_p (by simp only [List.getElem?_toArray, List.getElem?_cons_zero, List.getElem?_cons_succ]; exact rfl) rfl rfl ?_; go_big_quiet_step (fail); refine wpQuiet_nil ?_)
                  have qd0 := DD17.out.cell 0
                  have qd1 := DD17.out.cell 1
                  have qd2 := DD17.out.cell 2
                  have qf0 := DD17.out.free 0
                  have qf1 := DD17.out.free 1
                  have qf2 := DD17.out.free 2
                  refine Mix.mix_e (by simp only [List.getElem?_toArray, List.getElem?_cons_zero, List.getElem?_cons_succ]; exact rfl) rfl fun W18 hW18 => ?_
                  obtain ⟨n18, rfl⟩ := hW18
                  go_wp2_with fail
                  intro m18
                  refine Mix.wpX_world fun V18 hV18 => ?_
                  have F1 := hid (show Blk V18 (V0.heap.size) 86 #[.int .u64 x.now, .slice (some ⟨V16.heap.size, 0, none⟩) n n, .bool false] from hV18 ▸ (((((DD17.out.drewN n18).put 0 _).put 1 _).put 2 _).drewN m18))
                  have F2 := hid (show Blk V18 (V16.heap.size) 4 (madeX #[.bool false] n) from hV18 ▸ (((((MS17.out.drewN n18).far (Blk.ne MS17.out DD17.out (by decide)) _).far (Blk.ne MS17.out DD17.out (by decide)) _).far (Blk.ne MS17.out DD17.out (by decide)) _).drewN m18))
                  have F3 := hid (show Ch (fun _ => False) wr V18 from hV18 ▸ (((((C17.out.drewN n18).set (fun ho => absurd (Nat.lt_of_lt_of_le ho C0.out.size) (Nat.lt_irrefl _)) _).set (fun ho => absurd (Nat.lt_of_lt_of_le ho C0.out.size) (Nat.lt_irrefl _)) _).set (fun ho => absurd (Nat.lt_of_lt_of_le ho C0.out.size) (Nat.lt_irrefl _)) _).drewN m18))
                  clear hV18 qd0 qd1 qd2 qf0 qf1 qf2
                  refine Mix.wpX_done (by kernel_rfl) ?_
                  intro z18
                  refine ⟨V16.heap.size, V0.heap.size, ?_, F1.out.drewN z18, F2.out.drewN z18, F3.out.drewN z18, C16.out.size, C0.out.size⟩
                  simp only [Act.put, List.setIfInBounds_toArray, List.set_cons_succ, List.set_cons_zero]
                · refine Mix.mix_a (by simp only [List.getElem?_toArray, List.getElem?_cons_zero, List.getElem?_cons_succ]; exact rfl) rfl fun W19 hW19 => ?_
                  obtain ⟨n19, rfl⟩ := hW19
                  go_wp2_with fail
                  refine ⟨fun j' hj' => ((((Ch.refl (fun _ => False) V15).drewN n19).alloc _).block j' (Nat.lt_of_lt_of_le ((HS.out j').1 hj') C15.out.size) id), ?_⟩
                  intro m19
                  refine Mix.wpX_world fun V19 hV19 => ?_
                  have hv19 : V19 = ((V15.drewN n19).alloc (.cells (madeX #[.bool false] n) 4)).drewN m19 := by rw [hV19]
                  clear hV19
                  have E19 := hid (show EpochM w.heap.size V19 p cb qb lv x.s (edf n) (pinsV pb n) (gsV gs) from hv19 ▸ (((E15.out.drewN n19).keep ((Ch.refl _ _).alloc _)).drewN m19))
                  have C19 := hid (show Ch (fun _ => False) wr V19 from hv19 ▸ (((C15.out.drewN n19).alloc _).drewN m19))
                  have MS19 := hid (show Blk V19 V15.heap.size 4 (madeX #[.bool false] n) from hv19 ▸ ((Blk.new (V15.drewN n19) _ _).drewN m19))
                  have DD19 := hid (show Blk V19 V0.heap.size 86 #[.int .u64 0, .slice none 0 0, .bool false] from hv19 ▸ (((DD15.out.drewN n19).alloc _).drewN m19))
                  clear hv19
                  refine Mix.wpX_prefix (fuel := 2) (by kernel_rfl) [4] _ _ _ (by kernel_rfl) ?_
                  (refine Mix.mix_q (by simp only [List.getElem?_toArray, List.getElem?_cons_zero, List.getElem?_cons_succ]; exact rfl) rfl ?_; go_big_quiet_step ((go_at_call 17; exact eg_now_q E19.out _)); refine wpQuiet_nil ?_)
                  intro m20
                  refine Mix.wpX_world fun V20 hV20 => ?_
                  have E20 := hid (show EpochM w.heap.size V20 p cb qb lv x.s (edf n) (pinsV pb n) (gsV gs) from hV20 ▸ E19.out.drewN m20)
                  have C20 := hid (show Ch (fun _ => False) wr V20 from hV20 ▸ C19.out.drewN m20)
                  have MS20 := hid (show Blk V20 V15.heap.size 4 (madeX #[.bool false] n) from hV20 ▸ MS19.out.drewN m20)
                  have DD20 := hid (show Blk V20 V0.heap.size 86 #[.int .u64 0, .slice none 0 0, .bool false] from hV20 ▸ DD19.out.drewN m20)
                  clear hV20
                  refine Mix.wpX_prefix (fuel := 0) (by kernel_rfl) [7, 9] _ _ _ (by kernel_rfl) ?_
                  (refine Mix.mix_p (by simp only [List.getElem?_toArray, List.getElem?_cons_zero, List.getElem?_cons_succ]; exact rfl) rfl rfl ?_; go_big_quiet_step (fail); refine wpQuiet_nil ?_)
                  have qd0 := DD20.out.cell 0
                  have qd1 := DD20.out.cell 1
                  have qd2 := DD20.out.cell 2
                  have qf0 := DD20.out.free 0
                  have qf1 := DD20.out.free 1
                  have qf2 := DD20.out.free 2
                  refine Mix.mix_e (by simp only [List.getElem?_toArray, List.getElem?_cons_zero, List.getElem?_cons_succ]; exact rfl) rfl fun W21 hW21 => ?_
                  obtain ⟨n21, rfl⟩ := hW21
                  go_wp2_with fail
                  intro m21
                  refine Mix.wpX_world fun V21 hV21 => ?_
                  have F1 := hid (show Blk V21 (V0.heap.size) 86 #[.int .u64 x.now, .slice (some ⟨V15.heap.size, 0, none⟩) n n, .bool false] from hV21 ▸ (((((DD20.out.drewN n21).put 0 _).put 1 _).put 2 _).drewN m21))
                  have F2 := hid (show Blk V21 (V15.heap.size) 4 (madeX #[.bool false] n) from hV21 ▸ (((((MS20.out.drewN n21).far (Blk.ne MS20.out DD20.out (by decide)) _).far (Blk.ne MS20.out DD20.out (by decide)) _).far (Blk.ne MS20.out DD20.out (by decide)) _).drewN m21))
                  have F3 := hid (show Ch (fun _ => False) wr V21 from hV21 ▸ (((((C20.out.drewN n21).set (fun ho => absurd (Nat.lt_of_lt_of_le ho C0.out.size) (Nat.lt_irrefl _)) _).set (fun ho => absurd (Nat.lt_of_lt_of_le ho C0.out.size) (Nat.lt_irrefl _)) _).set (fun ho => absurd (Nat.lt_of_lt_of_le ho C0.out.size) (Nat.lt_irrefl _)) _).drewN m21))
                  clear hV21 qd0 qd1 qd2 qf0 qf1 qf2
                  refine Mix.wpX_done (by kernel_rfl) ?_
                  intro z21
                  refine ⟨V15.heap.size, V0.heap.size, ?_, F1.out.drewN z21, F2.out.drewN z21, F3.out.drewN z21, C15.out.size, C0.out.size⟩
                  simp only [Act.put, List.setIfInBounds_toArray, List.set_cons_succ, List.set_cons_zero]
            · clear hS1 HS EE CC x1 c0 hmk
              rintro a' W35 ⟨ms, D, rfl, hD, hms, hC, hmsz, hDz⟩
              simp only [Act.put, List.setIfInBounds_toArray, List.set_cons_succ, List.set_cons_zero]
              have hm0 := H.out.mem.add2 (blkR ms 4 (boolA (onPart x n 0))) (blkR D 86 #[.int .u64 x.now, .slice (some ⟨ms, 0, none⟩) n n, .bool false]) hC (by show Blk _ _ _ _; rw [onPart_zero, ← madeX_bool]; exact hms) hD (fun k hk => by rw [show k = ms from hk]; exact hmsz) (fun k hk => by rw [show k = D from hk]; exact hDz) (fun k hk hk' => by
                have e1 : k = ms := hk
                have e2 : k = D := hk'
                exact Blk.ne hms hD (by decide) (e1.symm.trans e2))
              rw [egL_add, egL_add] at hm0
              have M0 := hid (show Mem w.heap.size w (egL w.heap.size p cb qb pb pr X lb n lv (.slice Ao go.length co) v0 v1 v2 (lbCells v0 v1 v2) x.s x.fine (gbOf gp) (gbOf gp) (gsV gs) (gsV (gsLive gs)) (gsR qb gs) (lim x.old 0 0) (lim x.old 0 1) (lim x.old 0 2) go.length (goV n go) (gp.map (gpR qb)) (go.map goR ++ [blkR ms 4 (boolA (onPart x n 0))] ++ [blkR D 86 #[.int .u64 x.now, .slice (some ⟨ms, 0, none⟩) n n, .bool false]])) W35 from hm0)
              clear hm0 hD hms hC hmsz hDz
              go_wp2_with fail
              go_loopw [13] (fun i2 w2r => ∃ q2 : Nat, q2 ≤ n ∧ i2 = .int .i64 q2 ∧ Mem w.heap.size w (egL w.heap.size p cb qb pb pr X lb n lv (.slice Ao go.length co) v0 v1 v2 (lbCells v0 v1 v2) x.s x.fine (gbOf gp) (gbOf gp) (gsV gs) (gsV (gsLive gs)) (gsR qb gs) (lim x.old 0 0) (lim x.old 0 1) (lim x.old 0 2) go.length (goV n go) (gp.map (gpR qb)) (go.map goR ++ [blkR ms 4 (boolA (onPart x n q2))] ++ [blkR D 86 #[.int .u64 x.now, .slice (some ⟨ms, 0, none⟩) n n, .bool false]])) w2r) (fun i2 _ => n - (intOf i2).toNat)
              case atStart => exact ⟨0, Nat.zero_le _, rfl, M0.out⟩
              case round =>
                obtain ⟨q2, hq2, rfl, hM⟩ := hrel
                by_cases hql : q2 < n
                · have d2 : decide (q2 < n) = true := decide_eq_true hql
                  have d2' : decide ((q2 : Int) < (n : Int)) = true := decide_eq_true (by omega)
                  have hL9 : (gp.map (gpR qb)).length = n := by rw [List.length_map]; exact H.out.gl
                  have hDB : Blk wr D 86 #[.int .u64 x.now, .slice (some ⟨ms, 0, none⟩) n n, .bool false] := hM.each (10 + n + (go.length + 1)) _ (egL_atO (r := blkR D 86 #[.int .u64 x.now, .slice (some ⟨ms, 0, none⟩) n n, .bool false]) hL9 (by simp))
                  have hMB : Blk wr ms 4 (boolA (onPart x n q2)) := hM.each (10 + n + go.length) _ (egL_atO (r := blkR ms 4 (boolA (onPart x n q2))) hL9 (by simp))
                  have d1q := hDB.cell 1
                  obtain ⟨zv, zw⟩ : ∃ v, wr.cell? ⟨ms, q2, none⟩ = some v := ⟨_, (hMB.cell q2).trans (boolA_at (l := onPart x n q2) (by unfold onPart; rw [List.length_append, List.length_take, List.length_map, H.out.inv.pl, List.length_replicate]; omega))⟩
                  have zf := hMB.free q2
                  have z3 : wr.cell? ⟨X, 3, none⟩ = some (.slice (some ⟨pr, 0, none⟩) n n) := (hM.each 3 _ rfl).cell 3
                  obtain ⟨o, ho⟩ : ∃ o, gp[q2]? = some o := ⟨_, List.getElem?_eq_getElem (by rw [H.out.gl]; exact hql)⟩
                  have HP := hid ho
                  have HQL := hid hql
                  have MI := hid hM
                  have hL9 := hid hL9
                  clear ho hDB hMB hM
                  have zp : wr.cell? ⟨pr, q2, none⟩ = some (pinV (o.map Prod.fst)) := (Blk.cell (MI.out.each 2 _ rfl) q2).trans (pinsA_at (gb_at HP.out))
                  match o, HP with
                  | none, HP =>
                    replace zp : wr.cell? ⟨pr, q2, none⟩ = some (.pointer none) := zp
                    have HIS := hid (show isOn (x.pin q2) = false by rw [H.out.pin_at HP.out]; rfl)
                    have hL9 := hL9.out
                    go_wp2_with fail
                    refine Mix.wp_region_mix (fun _ => True) (fun i => ([0, 0, 0, 0, 0, 0, 0, 0, 0, 0, 0, 0, 0, 0, 0, 0, 0, 0, 0, 0, 0, 0, 0, 2] : List Nat).getD i 0) [0, 1, 2, 3, 4, 5, 6, 7, 8, 9, 10, 11, 12, 13, 14, 15, 16, 17, 18, 19, 20, 21, 22, 23] (by kernel_rfl) (by kernel_rfl) ?_
                    repeat (first | (refine Mix.mix_q (by simp only [List.getElem?_toArray, List.getElem?_cons_zero, List.getElem?_cons_succ]; exact rfl) rfl ?_; go_big_quiet_step (fail); refine wpQuiet_nil ?_) | (refine Mix.mix_p (by simp only [List.getElem?_toArray, List.getElem?_cons_zero, List.getElem?_cons_succ]; exact rfl) rfl rfl ?_; go_big_quiet_step (fail); refine wpQuiet_nil ?_))
                    refine Mix.mix_e (by simp only [List.getElem?_toArray, List.getElem?_cons_zero, List.getElem?_cons_succ]; exact rfl) rfl fun Wc hWc => ?_
                    obtain ⟨n7, rfl⟩ := hWc
                    go_wp2_with fail
                    intro n8
                    have HN := hid (((MI.out.drewN n7).putOn hL9 q2 false).drewN n8)
                    clear d1q zv zw d2 d2' z3 zp zf
                    go_wp2_with fail
                    go_roundw
                    case rel => exact ⟨q2 + 1, by omega, by go_num, by rw [onPart_succ H.out.inv.pl HQL.out, HIS.out]; exact HN.out⟩
                    case measure => have := HQL.out; simp [intOf]; omega
                  | some (g, qn), HP =>
                    replace zp : wr.cell? ⟨pr, q2, none⟩ = some (.pointer (some ⟨g, 0, none⟩)) := zp
                    have HIS := hid (show isOn (x.pin q2) = (qn.ph == 0) by rw [H.out.pin_at HP.out]; rfl)
                    have HB := hid (show Blk wr g 117 (pnCells qb g qn) from MI.out.each (10 + q2) _ (egL_at9 (r := gpR qb (some (g, qn))) (by simp [HP.out])))
                    have hL9 := hL9.out
                    go_wp2_with fail
                    refine Mix.wp_region_mix (fun _ => True) (fun i => ([0, 0, 0, 0, 0, 0, 0, 0, 0, 0, 0, 0, 0, 0, 0, 0, 0, 0, 0, 0, 0, 0, 0, 2] : List Nat).getD i 0) [0, 1, 2, 3, 4, 5, 6, 7, 8, 9, 10, 11, 12, 13, 14, 15, 16, 17, 18, 19, 20, 21, 22, 23] (by kernel_rfl) (by kernel_rfl) ?_
                    repeat (first | (refine Mix.mix_q (by simp only [List.getElem?_toArray, List.getElem?_cons_zero, List.getElem?_cons_succ]; exact rfl) rfl ?_; go_big_quiet_step ((go_at_call 21; exact epn_next_q HB.out _)); refine wpQuiet_nil ?_) | (refine Mix.mix_p (by simp only [List.getElem?_toArray, List.getElem?_cons_zero, List.getElem?_cons_succ]; exact rfl) rfl rfl ?_; go_big_quiet_step (fail); refine wpQuiet_nil ?_))
                    refine Mix.mix_e (by simp only [List.getElem?_toArray, List.getElem?_cons_zero, List.getElem?_cons_succ]; exact rfl) rfl fun Wc hWc => ?_
                    obtain ⟨n7, rfl⟩ := hWc
                    go_wp2_with fail
                    intro n8
                    have HN := hid (((MI.out.drewN n7).putOn hL9 q2 (qn.ph == 0)).drewN n8)
                    clear d1q zv zw d2 d2' z3 zp zf
                    go_wp2_with fail
                    go_roundw
                    case rel => exact ⟨q2 + 1, by omega, by go_num, by rw [onPart_succ H.out.inv.pl HQL.out, HIS.out]; exact HN.out⟩
                    case measure => have := HQL.out; simp [intOf]; omega
                · have hqn : q2 = n := by omega
                  subst hqn
                  have d2 : decide (q2 < q2) = false := decide_eq_false (by omega)
                  have d2' : decide ((q2 : Int) < (q2 : Int)) = false := decide_eq_false (by omega)
                  rw [onPart_all H.out.inv.pl] at hM
                  have hL9 : (gp.map (gpR qb)).length = q2 := by rw [List.length_map]; exact H.out.gl
                  have hDB : Blk wr D 86 #[.int .u64 x.now, .slice (some ⟨ms, 0, none⟩) q2 q2, .bool false] := hM.each (10 + q2 + (go.length + 1)) _ (egL_atO (r := blkR D 86 #[.int .u64 x.now, .slice (some ⟨ms, 0, none⟩) q2 q2, .bool false]) hL9 (by simp))
                  have HDB := hid hDB
                  have b0 := hDB.cell 0
                  have b1 := hDB.cell 1
                  have b2 := hDB.cell 2
                  have x5 : wr.cell? ⟨X, 5, none⟩ = some (.slice Ao go.length co) := (hM.each 3 _ rfl).cell 5
                  have MI := hid hM
                  obtain ⟨S, hS⟩ : ∃ S : Nat → Prop, ∀ k, S k ↔ k < wr.heap.size := ⟨_, fun _ => Iff.rfl⟩
                  have hS1 : Mix.Has S X := (hS _).2 (Blk.lt (hM.each 3 _ rfl))
                  have HS := hid hS
                  clear hM hDB hL9 hS d2 d2'
                  go_wp2_with fail
                  refine Mix.wp_region_mix S (fun i => ([1, 1, 1, 1, 4, 0, 3, 2, 0, 0, 2] : List Nat).getD i 0) [0, 1, 2, 3, 4, 5, 6, 7, 8, 9, 10] (by kernel_rfl) (by kernel_rfl) ?_
                  repeat (first | (refine Mix.mix_q (by simp only [List.getElem?_toArray, List.getElem?_cons_zero, List.getElem?_cons_succ]; exact rfl) rfl ?_; go_big_quiet_step (fail); refine wpQuiet_nil ?_) | (refine Mix.mix_p (by simp only [List.getElem?_toArray, List.getElem?_cons_zero, List.getElem?_cons_succ]; exact rfl) rfl rfl ?_; go_big_quiet_step (fail); refine wpQuiet_nil ?_) | (refine Mix.mix_s (by simp only [List.getElem?_toArray, List.getElem?_cons_zero, List.getElem?_cons_succ]; exact rfl) rfl rfl ?_; go_big_quiet_step (fail); refine wpQuiet_nil ?_))
                  refine Mix.mix_a (by simp only [List.getElem?_toArray, List.getElem?_cons_zero, List.getElem?_cons_succ]; exact rfl) rfl fun Wd hWd => ?_
                  obtain ⟨n5, rfl⟩ := hWd
                  go_wp2_with fail
                  refine ⟨fun j' hj' => ((((Ch.refl (fun _ => False) wr).drewN n5).alloc _).block j' ((HS.out j').1 hj') id), Mix.mix_world fun w6 hw6 => ?_⟩
                  have c6 : Ch (fun _ => False) wr w6 := by rw [hw6]; exact ((Ch.refl _ wr).drewN n5).alloc _
                  have t6 : Blk w6 wr.heap.size 86 #[.int .u64 x.now, .slice (some ⟨ms, 0, none⟩) q2 q2, .bool false] := by rw [hw6]; exact Blk.new (wr.drewN n5) _ _
                  have M6 := hid (MI.out.keep c6)
                  clear hw6 c6 hS1 HS b0 b1 b2 x5
                  refine Mix.mix_e (by simp only [List.getElem?_toArray, List.getElem?_cons_zero, List.getElem?_cons_succ]; exact rfl) rfl fun We hWe => ?_
                  obtain ⟨n7, rfl⟩ := hWe
                  obtain ⟨i0, hi, hz0, hz1, hz2⟩ := info_parts (show (Try.prog.info? 86).map (fun i => (i.zero, i.size, i.bytes)) = some (some (.agg #[.int .u64 0, .slice none 0 0, .bool false]), 3, 40) by kernel_rfl)
                  refine wpList_app _ rfl _ _ 79 rfl w.heap.size 86 i0 _ 3 40 Try.underlying79 hi hz0 hz1 hz2 rfl (by decide) _ _ _ rfl (show (w6.drewN n7).ownsRow w.heap.size 86 3 (.slice Ao go.length co) go.length (goV q2 go) from M6.out.each 8 _ rfl) ⟨wr.heap.size, 0, none⟩ 1 1 [.int .u64 x.now, .slice (some ⟨ms, 0, none⟩) q2 q2, .bool false] rfl rfl ?c1 ?c2 (by decide) ?c3 ?c4 ?c5 ?_
                  case c1 => intro j' u hu; rw [addr_add0]; exact ((t6.drewN n7).cell j').trans (by simpa using hu)
                  case c2 => intro u hu; simp at hu; rcases hu with rfl | rfl | rfl <;> rfl
                  case c3 => unfold maxLen; omega
                  case c4 => omega
                  case c5 => exact M6.out.bz
                  intro v' w7 hown7 hgrow7 hfresh7
                  have hm7 := (M6.out.drewN n7).app (i := 8) (n' := go.length + 1) (xs' := goV q2 (go ++ [(ms, (⟨x.now, x.ps.map isOn, false⟩ : Rt))])) rfl (by rw [goV_app]; exact hown7) hgrow7 hfresh7
                  obtain ⟨A', c', hv', _⟩ := own_slice hown7
                  subst hv'
                  have x5 : w7.cell? ⟨X, 5, none⟩ = some (.slice Ao go.length co) := (hm7.each 3 _ rfl).cell 5
                  have fx5 := Blk.free (hm7.each 3 _ rfl) 5
                  have M7 := hid hm7
                  clear hown7 hgrow7 hfresh7 hm7 t6
                  go_wp2_with fail
                  repeat (first | (refine Mix.mix_q (by simp only [List.getElem?_toArray, List.getElem?_cons_zero, List.getElem?_cons_succ]; exact rfl) rfl ?_; go_big_quiet_step (fail); refine wpQuiet_nil ?_) | (refine Mix.mix_p (by simp only [List.getElem?_toArray, List.getElem?_cons_zero, List.getElem?_cons_succ]; exact rfl) rfl rfl ?_; go_big_quiet_step (fail); refine wpQuiet_nil ?_) | (refine Mix.mix_s (by simp only [List.getElem?_toArray, List.getElem?_cons_zero, List.getElem?_cons_succ]; exact rfl) rfl rfl ?_; go_big_quiet_step (fail); refine wpQuiet_nil ?_))
                  refine Mix.mix_e (by simp only [List.getElem?_toArray, List.getElem?_cons_zero, List.getElem?_cons_succ]; exact rfl) rfl fun Wf hWf => ?_
                  obtain ⟨n8, rfl⟩ := hWf
                  go_wp2_with fail
                  intro n9
                  have m8 : Mem w.heap.size w (egL w.heap.size p cb qb pb pr X lb q2 lv (.slice A' (go.length + 1) c') v0 v1 v2 (lbCells v0 v1 v2) x.s x.fine (gbOf gp) (gbOf gp) (gsV gs) (gsV (gsLive gs)) (gsR qb gs) (lim x.old 0 0) (lim x.old 0 1) (lim x.old 0 2) (go.length + 1) (goV q2 (go ++ [(ms, (⟨x.now, x.ps.map isOn, false⟩ : Rt))])) (gp.map (gpR qb)) (go.map goR ++ [blkR ms 4 (boolA (x.ps.map isOn))] ++ [blkR D 86 #[.int .u64 x.now, .slice (some ⟨ms, 0, none⟩) q2 q2, .bool false]])) (((w7.drewN n8).setCell ⟨X, 5, none⟩ (.slice A' (go.length + 1) c')).drewN n9) := ((M7.out.drewN n8).put (i := 3) rfl 5 (.slice A' (go.length + 1) c')).drewN n9
                  obtain ⟨w8, hw8⟩ : ∃ w8, w8 = ((w7.drewN n8).setCell ⟨X, 5, none⟩ (.slice A' (go.length + 1) c')).drewN n9 := ⟨_, rfl⟩
                  rw [← hw8] at m8 ⊢
                  clear hw8 x5 fx5
                  have hL9 : (gp.map (gpR qb)).length = q2 := by rw [List.length_map]; exact H.out.gl
                  have hDB : Blk w8 D 86 #[.int .u64 x.now, .slice (some ⟨ms, 0, none⟩) q2 q2, .bool false] := m8.each (10 + q2 + (go.length + 1)) _ (egL_atO (r := blkR D 86 #[.int .u64 x.now, .slice (some ⟨ms, 0, none⟩) q2 q2, .bool false]) hL9 (by simp))
                  have b0 := hDB.cell 0
                  have x5 : w8.cell? ⟨X, 5, none⟩ = some (.slice A' (go.length + 1) c') := (m8.each 3 _ rfl).cell 5
                  have x2 : w8.cell? ⟨X, 2, none⟩ = some (.pointer (some ⟨lb, 0, none⟩)) := (m8.each 3 _ rfl).cell 2
                  obtain ⟨S, hS⟩ : ∃ S : Nat → Prop, ∀ k, S k ↔ k < w8.heap.size := ⟨_, fun _ => Iff.rfl⟩
                  have hS1 : Mix.Has S X := (hS _).2 (Blk.lt (m8.each 3 _ rfl))
                  have hS2 : Mix.Has S D := (hS _).2 hDB.lt
                  have HS := hid hS
                  have M8 := hid m8
                  clear m8 hDB hL9 hS
                  go_wp2_with fail
                  refine Mix.wp_region_mix S (fun i => ([1, 1, 1, 4, 1, 4, 0, 0, 0, 0, 0, 0, 3, 2, 0] : List Nat).getD i 0) [0, 1, 2, 3, 4, 5, 6, 7, 8, 9, 10, 11, 12, 13, 14] (by kernel_rfl) (by kernel_rfl) ?_
                  repeat (first | (refine Mix.mix_q (by simp only [List.getElem?_toArray, List.getElem?_cons_zero, List.getElem?_cons_succ]; exact rfl) rfl ?_; go_big_quiet_step (fail); refine wpQuiet_nil ?_) | (refine Mix.mix_p (by simp only [List.getElem?_toArray, List.getElem?_cons_zero, List.getElem?_cons_succ]; exact rfl) rfl rfl ?_; go_big_quiet_step (fail); refine wpQuiet_nil ?_) | (refine Mix.mix_s (by simp only [List.getElem?_toArray, List.getElem?_cons_zero, List.getElem?_cons_succ]; exact rfl) rfl rfl ?_; go_big_quiet_step (fail); refine wpQuiet_nil ?_))
                  refine Mix.mix_a (by simp only [List.getElem?_toArray, List.getElem?_cons_zero, List.getElem?_cons_succ]; exact rfl) rfl fun Wg hWg => ?_
                  obtain ⟨na, rfl⟩ := hWg
                  go_wp2_with fail
                  refine ⟨fun j' hj' => ((((Ch.refl (fun _ => False) w8).drewN na).alloc _).block j' ((HS.out j').1 hj') id), Mix.mix_world fun w9 hw9 => ?_⟩
                  have t9 : Blk w9 w8.heap.size 92 #[.int .u64 ((go.length : Int) + 1)] := by rw [hw9]; exact Blk.new (w8.drewN na) _ _
                  have M9 := hid (M8.out.keep (w' := w9) (by rw [hw9]; exact ((Ch.refl _ w8).drewN na).alloc _))
                  have T9 := hid t9
                  clear hw9 hS1 hS2 HS b0 x5 x2 t9
                  refine Mix.mix_e (by simp only [List.getElem?_toArray, List.getElem?_cons_zero, List.getElem?_cons_succ]; exact rfl) rfl fun Wh hWh => ?_
                  obtain ⟨nb, rfl⟩ := hWh
                  go_wp2_with fail
                  refine (retire_run w.heap.size lb v0 v1 v2 (lim x.old 0 0) (lim x.old 0 1) (lim x.old 0 2) (w9.drewN nb) (M9.out.each 4 _ rfl) (M9.out.each 5 _ rfl) (M9.out.each 6 _ rfl) (M9.out.each 7 _ rfl) x.now ⟨H.out.inv.nw.1, by have := H.out.inv.nw.2; omega⟩ w8.heap.size 0 1 1 [(go.length : Int) + 1] rfl (Nat.le_refl _) (fun i u hu => by rw [Nat.zero_add]; exact ((T9.out.drewN nb).cell i).trans (by simpa [hvs] using hu)) (by decide) (by
                    have e1 := limAll_len x.old
                    have e2 : x.old.length = go.length := by rw [H.out.old, List.length_map]
                    unfold limAll at e1
                    omega) M9.out.bz (by simp; omega)).mono ?_
                  rintro e wj hret
                  have hnd : ((lim x.old 0 0 ++ lim x.old 0 1 ++ lim x.old 0 2) ++ [(go.length : Int) + 1]).Nodup := by
                    have t := limAll_fresh x.old
                    rw [show x.old.length = go.length by rw [H.out.old, List.length_map]] at t
                    exact t
                  rcases hret with ⟨hc, _⟩ | ⟨_, rfl, hret⟩
                  · exact absurd hnd hc
                  obtain ⟨u0, u1, u2, hR⟩ := H.out.ret (by omega) (ov' := (.slice A' (go.length + 1) c')) (ms := ms) rfl (by have t := (M9.out.drewN nb); exact t.dropD) hret
                  have HR := hid hR
                  clear hret hnd hR
                  go_wp2_with fail
                  repeat (first | (refine Mix.mix_q (by simp only [List.getElem?_toArray, List.getElem?_cons_zero, List.getElem?_cons_succ]; exact rfl) rfl ?_; go_big_quiet_step (fail); refine wpQuiet_nil ?_) | (refine Mix.mix_p (by simp only [List.getElem?_toArray, List.getElem?_cons_zero, List.getElem?_cons_succ]; exact rfl) rfl rfl ?_; go_big_quiet_step (fail); refine wpQuiet_nil ?_))
                  intro nz
                  go_wp2_with fail
                  go_roundw
                  case rel => exact ⟨j + 1, by omega, by go_num, _, _, _, _, _, _, _, _, _, HR.out.drewN nz, ginv_ret HG.out⟩
                  case measure => simp [intOf]; omega
          · obtain ⟨⟨t1, t2⟩, k, hkn, hkk⟩ := slot_of ev.k n (by omega) hn
            have dn : decide (0 < n) = true := decide_eq_true (by omega)
            have dn' : decide ((0 : Int) < (n : Int)) = true := decide_eq_true (by omega)
            have dz : ((n : Int) == 0) = false := by rw [beq_eq_false_iff_ne]; omega
            have dz' : (n == 0) = false := by rw [beq_eq_false_iff_ne]; omega
            have hnz : ¬ (n : Int) = 0 := by omega
            obtain ⟨t, ht⟩ : ∃ t, ev.k.tmod n = t := ⟨_, rfl⟩
            rw [ht] at t1 t2 hkk
            have hpos : 0 ≤ t + (n : Int) := by omega
            have hle : t + (n : Int) ≤ 10 := by omega
            obtain ⟨Ao, co, hov, hcov⟩ := own_slice (show wr.ownsRow w.heap.size 86 3 ov go.length (goV n go) from H.out.mem.each 8 _ rfl)
            subst hov
            have hom := H.out.om
            have hmk : ∀ W : World, (Instr.makeSlice 84 (.int .i64 (n : Int)) (.int .i64 (n : Int))).run Try.prog W = .ok (.slice (some ⟨W.heap.size, 0, none⟩) n n) (W.alloc (.cells (madeX (Value.cells (.bool false)) (n * 1)) 4)) := fun W => run_make_x (P := Try.prog) 84 4 (.bool false) 1 1 Try.underlying84 (by kernel_rfl) (by decide) n (by omega) W
            have x1 : wr.cell? ⟨X, 1, none⟩ = some (.pointer (some ⟨qb, 0, none⟩)) := (H.out.mem.each 3 _ rfl).cell 1
            obtain ⟨S, hS⟩ : ∃ S : Nat → Prop, ∀ k, S k ↔ k < wr.heap.size := ⟨_, fun _ => Iff.rfl⟩
            have hS1 : Mix.Has S X := (hS _).2 (Blk.lt (H.out.mem.each 3 _ rfl))
            have HS := hid hS
            have EE := hid H.out.ep
            have CC := hid (Ch.refl (fun _ => False) wr)
            clear hS
            go_wp2_with fail
            refine Mix.wp_region_XJ S (fun i => ([1, 1, 1, 4, 0, 1, 3, 1, 3, 2] : List Nat).getD i 0) (fun a0 a' w' => ∃ ms D, a' = ((((((((((a0.put (some 181) (.pointer (some ⟨X, 0, none⟩))).put (some 182) (.pointer (some ⟨X, 0, none⟩))).put (some 183) (.pointer (some ⟨X, 1, none⟩))).put (some 184) (.pointer (some ⟨qb, 0, none⟩))).put (some 185) (.int .u64 x.now)).put (some 186) (.int .i64 n)).put (some 187) (.slice (some ⟨ms, 0, none⟩) n n)).put (some 188) (.agg #[.int .u64 x.now, .slice (some ⟨ms, 0, none⟩) n n, .bool false])).put (some 12) (.pointer (some ⟨D, 0, none⟩)))) ∧ Blk w' D 86 #[.int .u64 x.now, .slice (some ⟨ms, 0, none⟩) n n, .bool false] ∧ Blk w' ms 4 (madeX #[.bool false] n) ∧ Ch (fun _ => False) wr w' ∧ wr.heap.size ≤ ms ∧ wr.heap.size ≤ D) (by kernel_rfl) ?_ ?_
            · refine Mix.wpX_prefix (fuel := 5) (by kernel_rfl) [0, 1, 2, 3, 5] _ _ _ (by kernel_rfl) ?_
              repeat (first | (refine Mix.mix_p (by simp only [List.getElem?_toArray, List.getElem?_cons_zero, List.getElem?_cons_succ]; exact rfl) rfl rfl ?_; go_big_quiet_step (fail); refine wpQuiet_nil ?_) | (refine Mix.mix_s (by simp only [List.getElem?_toArray, List.getElem?_cons_zero, List.getElem?_cons_succ]; exact rfl) rfl rfl ?_; go_big_quiet_step (fail); refine wpQuiet_nil ?_))
              intro m0
              refine Mix.wpX_world fun V0 hV0 => ?_
              have E0 := hid (show EpochM w.heap.size V0 p cb qb lv x.s (edf n) (pinsV pb n) (gsV gs) from hV0 ▸ EE.out.drewN m0)
              have C0 := hid (show Ch (fun _ => False) wr V0 from hV0 ▸ CC.out.drewN m0)
              clear hV0 x1 c0
              refine Mix.wpX_three 4 6 8 (by kernel_rfl) ?_ ?_ ?_
              · (refine Mix.mix_q (by simp only [List.getElem?_toArray, List.getElem?_cons_zero, List.getElem?_cons_succ]; exact rfl) rfl ?_; go_big_quiet_step ((go_at_call 17; exact eg_now_q E0.out _)); refine wpQuiet_nil ?_)
                intro m1
                refine Mix.wpX_world fun V1 hV1 => ?_
                have E1 := hid (show EpochM w.heap.size V1 p cb qb lv x.s (edf n) (pinsV pb n) (gsV gs) from hV1 ▸ E0.out.drewN m1)
                have C1 := hid (show Ch (fun _ => False) wr V1 from hV1 ▸ C0.out.drewN m1)
                clear hV1
                refine Mix.wpX_two 6 8 (by kernel_rfl) ?_ ?_
                · refine Mix.mix_a (by simp only [List.getElem?_toArray, List.getElem?_cons_zero, List.getElem?_cons_succ]; exact rfl) rfl fun W2 hW2 => ?_
                  obtain ⟨n2, rfl⟩ := hW2
                  go_wp2_with fail
                  refine ⟨fun j' hj' => ((((Ch.refl (fun _ => False) V1).drewN n2).alloc _).block j' (Nat.lt_of_lt_of_le ((HS.out j').1 hj') C1.out.size) id), ?_⟩
                  intro m2
                  refine Mix.wpX_world fun V2 hV2 => ?_
                  have hv2 : V2 = ((V1.drewN n2).alloc (.cells (madeX #[.bool false] n) 4)).drewN m2 := by rw [hV2]
                  clear hV2
                  have E2 := hid (show EpochM w.heap.size V2 p cb qb lv x.s (edf n) (pinsV pb n) (gsV gs) from hv2 ▸ (((E1.out.drewN n2).keep ((Ch.refl _ _).alloc _)).drewN m2))
                  have C2 := hid (show Ch (fun _ => False) wr V2 from hv2 ▸ (((C1.out.drewN n2).alloc _).drewN m2))
                  have MS2 := hid (show Blk V2 V1.heap.size 4 (madeX #[.bool false] n) from hv2 ▸ ((Blk.new (V1.drewN n2) _ _).drewN m2))
                  clear hv2
                  refine Mix.wpX_prefix (fuel := 2) (by kernel_rfl) [8] _ _ _ (by kernel_rfl) ?_
                  refine Mix.mix_a (by simp only [List.getElem?_toArray, List.getElem?_cons_zero, List.getElem?_cons_succ]; exact rfl) rfl fun W3 hW3 => ?_
                  obtain ⟨n3, rfl⟩ := hW3
                  go_wp2_with fail
                  refine ⟨fun j' hj' => ((((Ch.refl (fun _ => False) V2).drewN n3).alloc _).block j' (Nat.lt_of_lt_of_le ((HS.out j').1 hj') C2.out.size) id), ?_⟩
                  intro m3
                  refine Mix.wpX_world fun V3 hV3 => ?_
                  have hv3 : V3 = ((V2.drewN n3).alloc (.cells #[.int .u64 0, .slice none 0 0, .bool false] 86)).drewN m3 := by rw [hV3]
                  clear hV3
                  have E3 := hid (show EpochM w.heap.size V3 p cb qb lv x.s (edf n) (pinsV pb n) (gsV gs) from hv3 ▸ (((E2.out.drewN n3).keep ((Ch.refl _ _).alloc _)).drewN m3))
                  have C3 := hid (show Ch (fun _ => False) wr V3 from hv3 ▸ (((C2.out.drewN n3).alloc _).drewN m3))
                  have DD3 := hid (show Blk V3 V2.heap.size 86 #[.int .u64 0, .slice none 0 0, .bool false] from hv3 ▸ ((Blk.new (V2.drewN n3) _ _).drewN m3))
                  have MS3 := hid (show Blk V3 V1.heap.size 4 (madeX #[.bool false] n) from hv3 ▸ (((MS2.out.drewN n3).alloc _).drewN m3))
                  clear hv3
                  refine Mix.wpX_prefix (fuel := 0) (by kernel_rfl) [7, 9] _ _ _ (by kernel_rfl) ?_
                  (refine Mix.mix_p (by simp only [List.getElem?_toArray, List.getElem?_cons_zero, List.getElem?_cons_succ]; exact rfl) rfl rfl ?_; go_big_quiet_step (fail); refine wpQuiet_nil ?_)
                  have qd0 := DD3.out.cell 0
                  have qd1 := DD3.out.cell 1
                  have qd2 := DD3.out.cell 2
                  have qf0 := DD3.out.free 0
                  have qf1 := DD3.out.free 1
                  have qf2 := DD3.out.free 2
                  refine Mix.mix_e (by simp only [List.getElem?_toArray, List.getElem?_cons_zero, List.getElem?_cons_succ]; exact rfl) rfl fun W4 hW4 => ?_
                  obtain ⟨n4, rfl⟩ := hW4
                  go_wp2_with fail
                  intro m4
                  refine Mix.wpX_world fun V4 hV4 => ?_
                  have F1 := hid (show Blk V4 (V2.heap.size) 86 #[.int .u64 x.now, .slice (some ⟨V1.heap.size, 0, none⟩) n n, .bool false] from hV4 ▸ (((((DD3.out.drewN n4).put 0 _).put 1 _).put 2 _).drewN m4))
                  have F2 := hid (show Blk V4 (V1.heap.size) 4 (madeX #[.bool false] n) from hV4 ▸ (((((MS3.out.drewN n4).far (Blk.ne MS3.out DD3.out (by decide)) _).far (Blk.ne MS3.out DD3.out (by decide)) _).far (Blk.ne MS3.out DD3.out (by decide)) _).drewN m4))
                  have F3 := hid (show Ch (fun _ => False) wr V4 from hV4 ▸ (((((C3.out.drewN n4).set (fun ho => absurd (Nat.lt_of_lt_of_le ho C2.out.size) (Nat.lt_irrefl _)) _).set (fun ho => absurd (Nat.lt_of_lt_of_le ho C2.out.size) (Nat.lt_irrefl _)) _).set (fun ho => absurd (Nat.lt_of_lt_of_le ho C2.out.size) (Nat.lt_irrefl _)) _).drewN m4))
                  clear hV4 qd0 qd1 qd2 qf0 qf1 qf2
                  refine Mix.wpX_done (by kernel_rfl) ?_
                  intro z4
                  refine ⟨V1.heap.size, V2.heap.size, ?_, F1.out.drewN z4, F2.out.drewN z4, F3.out.drewN z4, C1.out.size, C2.out.size⟩
                  simp only [Act.put, List.setIfInBounds_toArray, List.set_cons_succ, List.set_cons_zero]
                · refine Mix.mix_a (by simp only [List.getElem?_toArray, List.getElem?_cons_zero, List.getElem?_cons_succ]; exact rfl) rfl fun W5 hW5 => ?_
                  obtain ⟨n5, rfl⟩ := hW5
                  go_wp2_with fail
                  refine ⟨fun j' hj' => ((((Ch.refl (fun _ => False) V1).drewN n5).alloc _).block j' (Nat.lt_of_lt_of_le ((HS.out j').1 hj') C1.out.size) id), ?_⟩
                  intro m5
                  refine Mix.wpX_world fun V5 hV5 => ?_
                  have hv5 : V5 = ((V1.drewN n5).alloc (.cells #[.int .u64 0, .slice none 0 0, .bool false] 86)).drewN m5 := by rw [hV5]
                  clear hV5
                  have E5 := hid (show EpochM w.heap.size V5 p cb qb lv x.s (edf n) (pinsV pb n) (gsV gs) from hv5 ▸ (((E1.out.drewN n5).keep ((Ch.refl _ _).alloc _)).drewN m5))
                  have C5 := hid (show Ch (fun _ => False) wr V5 from hv5 ▸ (((C1.out.drewN n5).alloc _).drewN m5))
                  have DD5 := hid (show Blk V5 V1.heap.size 86 #[.int .u64 0, .slice none 0 0, .bool false] from hv5 ▸ ((Blk.new (V1.drewN n5) _ _).drewN m5))
                  clear hv5
                  refine Mix.wpX_prefix (fuel := 2) (by kernel_rfl) [6] _ _ _ (by kernel_rfl) ?_
                  refine Mix.mix_a (by simp only [List.getElem?_toArray, List.getElem?_cons_zero, List.getElem?_cons_succ]; exact rfl) rfl fun W6 hW6 => ?_
                  obtain ⟨n6, rfl⟩ := hW6
                  go_wp2_with fail
                  refine ⟨fun j' hj' => ((((Ch.refl (fun _ => False) V5).drewN n6).alloc _).block j' (Nat.lt_of_lt_of_le ((HS.out j').1 hj') C5.out.size) id), ?_⟩
                  intro m6
                  refine Mix.wpX_world fun V6 hV6 => ?_
                  have hv6 : V6 = ((V5.drewN n6).alloc (.cells (madeX #[.bool false] n) 4)).drewN m6 := by rw [hV6]
                  clear hV6
                  have E6 := hid (show EpochM w.heap.size V6 p cb qb lv x.s (edf n) (pinsV pb n) (gsV gs) from hv6 ▸ (((E5.out.drewN n6).keep ((Ch.refl _ _).alloc _)).drewN m6))
                  have C6 := hid (show Ch (fun _ => False) wr V6 from hv6 ▸ (((C5.out.drewN n6).alloc _).drewN m6))
                  have MS6 := hid (show Blk V6 V5.heap.size 4 (madeX #[.bool false] n) from hv6 ▸ ((Blk.new (V5.drewN n6) _ _).drewN m6))
                  have DD6 := hid (show Blk V6 V1.heap.size 86 #[.int .u64 0, .slice none 0 0, .bool false] from hv6 ▸ (((DD5.out.drewN n6).alloc _).drewN m6))
                  clear hv6
                  refine Mix.wpX_prefix (fuel := 0) (by kernel_rfl) [7, 9] _ _ _ (by kernel_rfl) ?_
                  (refine Mix.mix_p (by simp only [List.getElem?_toArray, List.getElem?_cons_zero, List.getElem?_cons_succ]; exact rfl) rfl rfl ?_; go_big_quiet_step (fail); refine wpQuiet_nil ?_)
                  have qd0 := DD6.out.cell 0
                  have qd1 := DD6.out.cell 1
                  have qd2 := DD6.out.cell 2
                  have qf0 := DD6.out.free 0
                  have qf1 := DD6.out.free 1
                  have qf2 := DD6.out.free 2
                  refine Mix.mix_e (by simp only [List.getElem?_toArray, List.getElem?_cons_zero, List.getElem?_cons_succ]; exact rfl) rfl fun W7 hW7 => ?_
                  obtain ⟨n7, rfl⟩ := hW7
                  go_wp2_with fail
                  intro m7
                  refine Mix.wpX_world fun V7 hV7 => ?_
                  have F1 := hid (show Blk V7 (V1.heap.size) 86 #[.int .u64 x.now, .slice (some ⟨V5.heap.size, 0, none⟩) n n, .bool false] from hV7 ▸ (((((DD6.out.drewN n7).put 0 _).put 1 _).put 2 _).drewN m7))
                  have F2 := hid (show Blk V7 (V5.heap.size) 4 (madeX #[.bool false] n) from hV7 ▸ (((((MS6.out.drewN n7).far (Blk.ne MS6.out DD6.out (by decide)) _).far (Blk.ne MS6.out DD6.out (by decide)) _).far (Blk.ne MS6.out DD6.out (by decide)) _).drewN m7))
                  have F3 := hid (show Ch (fun _ => False) wr V7 from hV7 ▸ (((((C6.out.drewN n7).set (fun ho => absurd (Nat.lt_of_lt_of_le ho C1.out.size) (Nat.lt_irrefl _)) _).set (fun ho => absurd (Nat.lt_of_lt_of_le ho C1.out.size) (Nat.lt_irrefl _)) _).set (fun ho => absurd (Nat.lt_of_lt_of_le ho C1.out.size) (Nat.lt_irrefl _)) _).drewN m7))
                  clear hV7 qd0 qd1 qd2 qf0 qf1 qf2
                  refine Mix.wpX_done (by kernel_rfl) ?_
                  intro z7
                  refine ⟨V5.heap.size, V1.heap.size, ?_, F1.out.drewN z7, F2.out.drewN z7, F3.out.drewN z7, C5.out.size, C1.out.size⟩
                  simp only [Act.put, List.setIfInBounds_toArray, List.set_cons_succ, List.set_cons_zero]
              · refine Mix.mix_a (by simp only [List.getElem?_toArray, List.getElem?_cons_zero, List.getElem?_cons_succ]; exact rfl) rfl fun W8 hW8 => ?_
                obtain ⟨n8, rfl⟩ := hW8
                go_wp2_with fail
                refine ⟨fun j' hj' => ((((Ch.refl (fun _ => False) V0).drewN n8).alloc _).block j' (Nat.lt_of_lt_of_le ((HS.out j').1 hj') C0.out.size) id), ?_⟩
                intro m8
                refine Mix.wpX_world fun V8 hV8 => ?_
                have hv8 : V8 = ((V0.drewN n8).alloc (.cells (madeX #[.bool false] n) 4)).drewN m8 := by rw [hV8]
                clear hV8
                have E8 := hid (show EpochM w.heap.size V8 p cb qb lv x.s (edf n) (pinsV pb n) (gsV gs) from hv8 ▸ (((E0.out.drewN n8).keep ((Ch.refl _ _).alloc _)).drewN m8))
                have C8 := hid (show Ch (fun _ => False) wr V8 from hv8 ▸ (((C0.out.drewN n8).alloc _).drewN m8))
                have MS8 := hid (show Blk V8 V0.heap.size 4 (madeX #[.bool false] n) from hv8 ▸ ((Blk.new (V0.drewN n8) _ _).drewN m8))
                clear hv8
                refine Mix.wpX_two 4 8 (by kernel_rfl) ?_ ?_
                · (refine Mix.mix_q (by simp only [List.getElem?_toArray, List.getElem?_cons_zero, List.getElem?_cons_succ]; exact rfl) rfl ?_; go_big_quiet_step ((go_at_call 17; exact eg_now_q E8.out _)); refine wpQuiet_nil ?_)
                  intro m9
                  refine Mix.wpX_world fun V9 hV9 => ?_
                  have E9 := hid (show EpochM w.heap.size V9 p cb qb lv x.s (edf n) (pinsV pb n) (gsV gs) from hV9 ▸ E8.out.drewN m9)
                  have C9 := hid (show Ch (fun _ => False) wr V9 from hV9 ▸ C8.out.drewN m9)
                  have MS9 := hid (show Blk V9 V0.heap.size 4 (madeX #[.bool false] n) from hV9 ▸ MS8.out.drewN m9)
                  clear hV9
                  refine Mix.wpX_prefix (fuel := 2) (by kernel_rfl) [8] _ _ _ (by kernel_rfl) ?_
                  refine Mix.mix_a (by simp only [List.getElem?_toArray, List.getElem?_cons_zero, List.getElem?_cons_succ]; exact rfl) rfl fun W10 hW10 => ?_
                  obtain ⟨n10, rfl⟩ := hW10
                  go_wp2_with fail
                  refine ⟨fun j' hj' => ((((Ch.refl (fun _ => False) V9).drewN n10).alloc _).block j' (Nat.lt_of_lt_of_le ((HS.out j').1 hj') C9.out.size) id), ?_⟩
                  intro m10
                  refine Mix.wpX_world fun V10 hV10 => ?_
                  have hv10 : V10 = ((V9.drewN n10).alloc (.cells #[.int .u64 0, .slice none 0 0, .bool false] 86)).drewN m10 := by rw [hV10]
                  clear hV10
                  have E10 := hid (show EpochM w.heap.size V10 p cb qb lv x.s (edf n) (pinsV pb n) (gsV gs) from hv10 ▸ (((E9.out.drewN n10).keep ((Ch.refl _ _).alloc _)).drewN m10))
                  have C10 := hid (show Ch (fun _ => False) wr V10 from hv10 ▸ (((C9.out.drewN n10).alloc _).drewN m10))
                  have DD10 := hid (show Blk V10 V9.heap.size 86 #[.int .u64 0, .slice none 0 0, .bool false] from hv10 ▸ ((Blk.new (V9.drewN n10) _ _).drewN m10))
                  have MS10 := hid (show Blk V10 V0.heap.size 4 (madeX #[.bool false] n) from hv10 ▸ (((MS9.out.drewN n10).alloc _).drewN m10))
                  clear hv10
                  refine Mix.wpX_prefix (fuel := 0) (by kernel_rfl) [7, 9] _ _ _ (by kernel_rfl) ?_
                  (refine Mix.mix_p (by simp only [List.getElem?_toArray, List.getElem?_cons_zero, List.getElem?_cons_succ]; exact rfl) rfl rfl ?_; go_big_quiet_step (fail); refine wpQuiet_nil ?_)
                  have qd0 := DD10.out.cell 0
                  have qd1 := DD10.out.cell 1
                  have qd2 := DD10.out.cell 2
                  have qf0 := DD10.out.free 0
                  have qf1 := DD10.out.free 1
                  have qf2 := DD10.out.free 2
                  refine Mix.mix_e (by simp only [List.getElem?_toArray, List.getElem?_cons_zero, List.getElem?_cons_succ]; exact rfl) rfl fun W11 hW11 => ?_
                  obtain ⟨n11, rfl⟩ := hW11
                  go_wp2_with fail
                  intro m11
                  refine Mix.wpX_world fun V11 hV11 => ?_
                  have F1 := hid (show Blk V11 (V9.heap.size) 86 #[.int .u64 x.now, .slice (some ⟨V0.heap.size, 0, none⟩) n n, .bool false] from hV11 ▸ (((((DD10.out.drewN n11).put 0 _).put 1 _).put 2 _).drewN m11))
                  have F2 := hid (show Blk V11 (V0.heap.size) 4 (madeX #[.bool false] n) from hV11 ▸ (((((MS10.out.drewN n11).far (Blk.ne MS10.out DD10.out (by decide)) _).far (Blk.ne MS10.out DD10.out (by decide)) _).far (Blk.ne MS10.out DD10.out (by decide)) _).drewN m11))
                  have F3 := hid (show Ch (fun _ => False) wr V11 from hV11 ▸ (((((C10.out.drewN n11).set (fun ho => absurd (Nat.lt_of_lt_of_le ho C9.out.size) (Nat.lt_irrefl _)) _).set (fun ho => absurd (Nat.lt_of_lt_of_le ho C9.out.size) (Nat.lt_irrefl _)) _).set (fun ho => absurd (Nat.lt_of_lt_of_le ho C9.out.size) (Nat.lt_irrefl _)) _).drewN m11))
                  clear hV11 qd0 qd1 qd2 qf0 qf1 qf2
                  refine Mix.wpX_done (by kernel_rfl) ?_
                  intro z11
                  refine ⟨V0.heap.size, V9.heap.size, ?_, F1.out.drewN z11, F2.out.drewN z11, F3.out.drewN z11, C0.out.size, C9.out.size⟩
                  simp only [Act.put, List.setIfInBounds_toArray, List.set_cons_succ, List.set_cons_zero]
                · refine Mix.mix_a (by simp only [List.getElem?_toArray, List.getElem?_cons_zero, List.getElem?_cons_succ]; exact rfl) rfl fun W12 hW12 => ?_
                  obtain ⟨n12, rfl⟩ := hW12
                  go_wp2_with fail
                  refine ⟨fun j' hj' => ((((Ch.refl (fun _ => False) V8).drewN n12).alloc _).block j' (Nat.lt_of_lt_of_le ((HS.out j').1 hj') C8.out.size) id), ?_⟩
                  intro m12
                  refine Mix.wpX_world fun V12 hV12 => ?_
                  have hv12 : V12 = ((V8.drewN n12).alloc (.cells #[.int .u64 0, .slice none 0 0, .bool false] 86)).drewN m12 := by rw [hV12]
                  clear hV12
                  have E12 := hid (show EpochM w.heap.size V12 p cb qb lv x.s (edf n) (pinsV pb n) (gsV gs) from hv12 ▸ (((E8.out.drewN n12).keep ((Ch.refl _ _).alloc _)).drewN m12))
                  have C12 := hid (show Ch (fun _ => False) wr V12 from hv12 ▸ (((C8.out.drewN n12).alloc _).drewN m12))
                  have DD12 := hid (show Blk V12 V8.heap.size 86 #[.int .u64 0, .slice none 0 0, .bool false] from hv12 ▸ ((Blk.new (V8.drewN n12) _ _).drewN m12))
                  have MS12 := hid (show Blk V12 V0.heap.size 4 (madeX #[.bool false] n) from hv12 ▸ (((MS8.out.drewN n12).alloc _).drewN m12))
                  clear hv12
                  refine Mix.wpX_prefix (fuel := 2) (by kernel_rfl) [4] _ _ _ (by kernel_rfl) ?_
                  (refine Mix.mix_q (by simp only [List.getElem?_toArray, List.getElem?_cons_zero, List.getElem?_cons_succ]; exact rfl) rfl ?_; go_big_quiet_step ((go_at_call 17; exact eg_now_q E12.out _)); refine wpQuiet_nil ?_)
                  intro m13
                  refine Mix.wpX_world fun V13 hV13 => ?_
                  have E13 := hid (show EpochM w.heap.size V13 p cb qb lv x.s (edf n) (pinsV pb n) (gsV gs) from hV13 ▸ E12.out.drewN m13)
                  have C13 := hid (show Ch (fun _ => False) wr V13 from hV13 ▸ C12.out.drewN m13)
                  have MS13 := hid (show Blk V13 V0.heap.size 4 (madeX #[.bool false] n) from hV13 ▸ MS12.out.drewN m13)
                  have DD13 := hid (show Blk V13 V8.heap.size 86 #[.int .u64 0, .slice none 0 0, .bool false] from hV13 ▸ DD12.out.drewN m13)
                  clear hV13
                  refine Mix.wpX_prefix (fuel := 0) (by kernel_rfl) [7, 9] _ _ _ (by kernel_rfl) ?_
                  (refine Mix.mix_p (by simp only [List.getElem?_toArray, List.getElem?_cons_zero, List.getElem?_cons_succ]; exact rfl) rfl rfl ?_; go_big_quiet_step (fail); refine wpQuiet_nil ?_)
                  have qd0 := DD13.out.cell 0
                  have qd1 := DD13.out.cell 1
                  have qd2 := DD13.out.cell 2
                  have qf0 := DD13.out.free 0
                  have qf1 := DD13.out.free 1
                  have qf2 := DD13.out.free 2
                  refine Mix.mix_e (by simp only [List.getElem?_toArray, List.getElem?_cons_zero, List.getElem?_cons_succ]; exact rfl) rfl fun W14 hW14 => ?_
                  obtain ⟨n14, rfl⟩ := hW14
                  go_wp2_with fail
                  intro m14
                  refine Mix.wpX_world fun V14 hV14 => ?_
                  have F1 := hid (show Blk V14 (V8.heap.size) 86 #[.int .u64 x.now, .slice (some ⟨V0.heap.size, 0, none⟩) n n, .bool false] from hV14 ▸ (((((DD13.out.drewN n14).put 0 _).put 1 _).put 2 _).drewN m14))
                  have F2 := hid (show Blk V14 (V0.heap.size) 4 (madeX #[.bool false] n) from hV14 ▸ (((((MS13.out.drewN n14).far (Blk.ne MS13.out DD13.out (by decide)) _).far (Blk.ne MS13.out DD13.out (by decide)) _).far (Blk.ne MS13.out DD13.out (by decide)) _).drewN m14))
                  have F3 := hid (show Ch (fun _ => False) wr V14 from hV14 ▸ (((((C13.out.drewN n14).set (fun ho => absurd (Nat.lt_of_lt_of_le ho C8.out.size) (Nat.lt_irrefl _)) _).set (fun ho => absurd (Nat.lt_of_lt_of_le ho C8.out.size) (Nat.lt_irrefl _)) _).set (fun ho => absurd (Nat.lt_of_lt_of_le ho C8.out.size) (Nat.lt_irrefl _)) _).drewN m14))
                  clear hV14 qd0 qd1 qd2 qf0 qf1 qf2
                  refine Mix.wpX_done (by kernel_rfl) ?_
                  intro z14
                  refine ⟨V0.heap.size, V8.heap.size, ?_, F1.out.drewN z14, F2.out.drewN z14, F3.out.drewN z14, C0.out.size, C8.out.size⟩
                  simp only [Act.put, List.setIfInBounds_toArray, List.set_cons_succ, List.set_cons_zero]
              · refine Mix.mix_a (by simp only [List.getElem?_toArray, List.getElem?_cons_zero, List.getElem?_cons_succ]; exact rfl) rfl fun W15 hW15 => ?_
                obtain ⟨n15, rfl⟩ := hW15
                go_wp2_with fail
                refine ⟨fun j' hj' => ((((Ch.refl (fun _ => False) V0).drewN n15).alloc _).block j' (Nat.lt_of_lt_of_le ((HS.out j').1 hj') C0.out.size) id), ?_⟩
                intro m15
                refine Mix.wpX_world fun V15 hV15 => ?_
                have hv15 : V15 = ((V0.drewN n15).alloc (.cells #[.int .u64 0, .slice none 0 0, .bool false] 86)).drewN m15 := by rw [hV15]
                clear hV15
                have E15 := hid (show EpochM w.heap.size V15 p cb qb lv x.s (edf n) (pinsV pb n) (gsV gs) from hv15 ▸ (((E0.out.drewN n15).keep ((Ch.refl _ _).alloc _)).drewN m15))
                have C15 := hid (show Ch (fun _ => False) wr V15 from hv15 ▸ (((C0.out.drewN n15).alloc _).drewN m15))
                have DD15 := hid (show Blk V15 V0.heap.size 86 #[.int .u64 0, .slice none 0 0, .bool false] from hv15 ▸ ((Blk.new (V0.drewN n15) _ _).drewN m15))
                clear hv15
                refine Mix.wpX_two 4 6 (by kernel_rfl) ?_ ?_
                · (refine Mix.mix_q (by simp only [List.getElem?_toArray, List.getElem?_cons_zero, List.getElem?_cons_succ]; exact rfl) rfl ?_; go_big_quiet_step ((go_at_call 17; exact eg_now_q E15.out _)); refine wpQuiet_nil ?_)
                  intro m16
                  refine Mix.wpX_world fun V16 hV16 => ?_
                  have E16 := hid (show EpochM w.heap.size V16 p cb qb lv x.s (edf n) (pinsV pb n) (gsV gs) from hV16 ▸ E15.out.drewN m16)
                  have C16 := hid (show Ch (fun _ => False) wr V16 from hV16 ▸ C15.out.drewN m16)
                  have DD16 := hid (show Blk V16 V0.heap.size 86 #[.int .u64 0, .slice none 0 0, .bool false] from hV16 ▸ DD15.out.drewN m16)
                  clear hV16
                  refine Mix.wpX_prefix (fuel := 2) (by kernel_rfl) [6] _ _ _ (by kernel_rfl) ?_
                  refine Mix.mix_a (by simp only [List.getElem?_toArray, List.getElem?_cons_zero, List.getElem?_cons_succ]; exact rfl) rfl fun W17 hW17 => ?_
                  obtain ⟨n17, rfl⟩ := hW17
                  go_wp2_with fail
                  refine ⟨fun j' hj' => ((((Ch.refl (fun _ => False) V16).drewN n17).alloc _).block j' (Nat.lt_of_lt_of_le ((HS.out j').1 hj') C16.out.size) id), ?_⟩
                  intro m17
                  refine Mix.wpX_world fun V17 hV17 => ?_
                  have hv17 : V17 = ((V16.drewN n17).alloc (.cells (madeX #[.bool false] n) 4)).drewN m17 := by rw [hV17]
                  clear hV17
                  have E17 := hid (show EpochM w.heap.size V17 p cb qb lv x.s (edf n) (pinsV pb n) (gsV gs) from hv17 ▸ (((E16.out.drewN n17).keep ((Ch.refl _ _).alloc _)).drewN m17))
                  have C17 := hid (show Ch (fun _ => False) wr V17 from hv17 ▸ (((C16.out.drewN n17).alloc _).drewN m17))
                  have MS17 := hid (show Blk V17 V16.heap.size 4 (madeX #[.bool false] n) from hv17 ▸ ((Blk.new (V16.drewN n17) _ _).drewN m17))
                  have DD17 := hid (show Blk V17 V0.heap.size 86 #[.int .u64 0, .slice none 0 0, .bool false] from hv17 ▸ (((DD16.out.drewN n17).alloc _).drewN m17))
                  clear hv17
                  refine Mix.wpX_prefix (fuel := 0) (by kernel_rfl) [7, 9] _ _ _ (by kernel_rfl) ?_
                  (refine Mix.mix_p (by simp only [List.getElem?_toArray, List.getElem?_cons_zero, List.getElem?_cons_succ]; exact rfl) rfl rfl ?_; go_big_quiet_step (fail); refine wpQuiet_nil ?_)
                  have qd0 := DD17.out.cell 0
                  have qd1 := DD17.out.cell 1
                  have qd2 := DD17.out.cell 2
                  have qf0 := DD17.out.free 0
                  have qf1 := DD17.out.free 1
                  have qf2 := DD17.out.free 2
                  refine Mix.mix_e (by simp only [List.getElem?_toArray, List.getElem?_cons_zero, List.getElem?_cons_succ]; exact rfl) rfl fun W18 hW18 => ?_
                  obtain ⟨n18, rfl⟩ := hW18
                  go_wp2_with fail
                  intro m18
                  refine Mix.wpX_world fun V18 hV18 => ?_
                  have F1 := hid (show Blk V18 (V0.heap.size) 86 #[.int .u64 x.now, .slice (some ⟨V16.heap.size, 0, none⟩) n n, .bool false] from hV18 ▸ (((((DD17.out.drewN n18).put 0 _).put 1 _).put 2 _).drewN m18))
                  have F2 := hid (show Blk V18 (V16.heap.size) 4 (madeX #[.bool false] n) from hV18 ▸ (((((MS17.out.drewN n18).far (Blk.ne MS17.out DD17.out (by decide)) _).far (Blk.ne MS17.out DD17.out (by decide)) _).far (Blk.ne MS17.out DD17.out (by decide)) _).drewN m18))
                  have F3 := hid (show Ch (fun _ => False) wr V18 from hV18 ▸ (((((C17.out.drewN n18).set (fun ho => absurd (Nat.lt_of_lt_of_le ho C0.out.size) (Nat.lt_irrefl _)) _).set (fun ho => absurd (Nat.lt_of_lt_of_le ho C0.out.size) (Nat.lt_irrefl _)) _).set (fun ho => absurd (Nat.lt_of_lt_of_le ho C0.out.size) (Nat.lt_irrefl _)) _).drewN m18))
                  clear hV18 qd0 qd1 qd2 qf0 qf1 qf2
                  refine Mix.wpX_done (by kernel_rfl) ?_
                  intro z18
                  refine ⟨V16.heap.size, V0.heap.size, ?_, F1.out.drewN z18, F2.out.drewN z18, F3.out.drewN z18, C16.out.size, C0.out.size⟩
                  simp only [Act.put, List.setIfInBounds_toArray, List.set_cons_succ, List.set_cons_zero]
                · refine Mix.mix_a (by simp only [List.getElem?_toArray, List.getElem?_cons_zero, List.getElem?_cons_succ]; exact rfl) rfl fun W19 hW19 => ?_
                  obtain ⟨n19, rfl⟩ := hW19
                  go_wp2_with fail
                  refine ⟨fun j' hj' => ((((Ch.refl (fun _ => False) V15).drewN n19).alloc _).block j' (Nat.lt_of_lt_of_le ((HS.out j').1 hj') C15.out.size) id), ?_⟩
                  intro m19
                  refine Mix.wpX_world fun V19 hV19 => ?_
                  have hv19 : V19 = ((V15.drewN n19).alloc (.cells (madeX #[.bool false] n) 4)).drewN m19 := by rw [hV19]
                  clear hV19
                  have E19 := hid (show EpochM w.heap.size V19 p cb qb lv x.s (edf n) (pinsV pb n) (gsV gs) from hv19 ▸ (((E15.out.drewN n19).keep ((Ch.refl _ _).alloc _)).drewN m19))
                  have C19 := hid (show Ch (fun _ => False) wr V19 from hv19 ▸ (((C15.out.drewN n19).alloc _).drewN m19))
                  have MS19 := hid (show Blk V19 V15.heap.size 4 (madeX #[.bool false] n) from hv19 ▸ ((Blk.new (V15.drewN n19) _ _).drewN m19))
                  have DD19 := hid (show Blk V19 V0.heap.size 86 #[.int .u64 0, .slice none 0 0, .bool false] from hv19 ▸ (((DD15.out.drewN n19).alloc _).drewN m19))
                  clear hv19
                  refine Mix.wpX_prefix (fuel := 2) (by kernel_rfl) [4] _ _ _ (by kernel_rfl) ?_
                  (refine Mix.mix_q (by simp only [List.getElem?_toArray, List.getElem?_cons_zero, List.getElem?_cons_succ]; exact rfl) rfl ?_; go_big_quiet_step ((go_at_call 17; exact eg_now_q E19.out _)); refine wpQuiet_nil ?_)
                  intro m20
                  refine Mix.wpX_world fun V20 hV20 => ?_
                  have E20 := hid (show EpochM w.heap.size V20 p cb qb lv x.s (edf n) (pinsV pb n) (gsV gs) from hV20 ▸ E19.out.drewN m20)
                  have C20 := hid (show Ch (fun _ => False) wr V20 from hV20 ▸ C19.out.drewN m20)
                  have MS20 := hid (show Blk V20 V15.heap.size 4 (madeX #[.bool false] n) from hV20 ▸ MS19.out.drewN m20)
                  have DD20 := hid (show Blk V20 V0.heap.size 86 #[.int .u64 0, .slice none 0 0, .bool false] from hV20 ▸ DD19.out.drewN m20)
                  clear hV20
                  refine Mix.wpX_prefix (fuel := 0) (by kernel_rfl) [7, 9] _ _ _ (by kernel_rfl) ?_
                  (refine Mix.mix_p (by simp only [List.getElem?_toArray, List.getElem?_cons_zero, List.getElem?_cons_succ]; exact rfl) rfl rfl ?_; go_big_quiet_step (fail); refine wpQuiet_nil ?_)
                  have qd0 := DD20.out.cell 0
                  have qd1 := DD20.out.cell 1
                  have qd2 := DD20.out.cell 2
                  have qf0 := DD20.out.free 0
                  have qf1 := DD20.out.free 1
                  have qf2 := DD20.out.free 2
                  refine Mix.mix_e (by simp only [List.getElem?_toArray, List.getElem?_cons_zero, List.getElem?_cons_succ]; exact rfl) rfl fun W21 hW21 => ?_
                  obtain ⟨n21, rfl⟩ := hW21
                  go_wp2_with fail
                  intro m21
                  refine Mix.wpX_world fun V21 hV21 => ?_
                  have F1 := hid (show Blk V21 (V0.heap.size) 86 #[.int .u64 x.now, .slice (some ⟨V15.heap.size, 0, none⟩) n n, .bool false] from hV21 ▸ (((((DD20.out.drewN n21).put 0 _).put 1 _).put 2 _).drewN m21))
                  have F2 := hid (show Blk V21 (V15.heap.size) 4 (madeX #[.bool false] n) from hV21 ▸ (((((MS20.out.drewN n21).far (Blk.ne MS20.out DD20.out (by decide)) _).far (Blk.ne MS20.out DD20.out (by decide)) _).far (Blk.ne MS20.out DD20.out (by decide)) _).drewN m21))
                  have F3 := hid (show Ch (fun _ => False) wr V21 from hV21 ▸ (((((C20.out.drewN n21).set (fun ho => absurd (Nat.lt_of_lt_of_le ho C0.out.size) (Nat.lt_irrefl _)) _).set (fun ho => absurd (Nat.lt_of_lt_of_le ho C0.out.size) (Nat.lt_irrefl _)) _).set (fun ho => absurd (Nat.lt_of_lt_of_le ho C0.out.size) (Nat.lt_irrefl _)) _).drewN m21))
                  clear hV21 qd0 qd1 qd2 qf0 qf1 qf2
                  refine Mix.wpX_done (by kernel_rfl) ?_
                  intro z21
                  refine ⟨V15.heap.size, V0.heap.size, ?_, F1.out.drewN z21, F2.out.drewN z21, F3.out.drewN z21, C15.out.size, C0.out.size⟩
                  simp only [Act.put, List.setIfInBounds_toArray, List.set_cons_succ, List.set_cons_zero]
            · clear hS1 HS EE CC x1 c0 hmk
              rintro a' W35 ⟨ms, D, rfl, hD, hms, hC, hmsz, hDz⟩
              simp only [Act.put, List.setIfInBounds_toArray, List.set_cons_succ, List.set_cons_zero]
              have hm0 := H.out.mem.add2 (blkR ms 4 (boolA (onPart x n 0))) (blkR D 86 #[.int .u64 x.now, .slice (some ⟨ms, 0, none⟩) n n, .bool false]) hC (by show Blk _ _ _ _; rw [onPart_zero, ← madeX_bool]; exact hms) hD (fun k hk => by rw [show k = ms from hk]; exact hmsz) (fun k hk => by rw [show k = D from hk]; exact hDz) (fun k hk hk' => by
                have e1 : k = ms := hk
                have e2 : k = D := hk'
                exact Blk.ne hms hD (by decide) (e1.symm.trans e2))
              rw [egL_add, egL_add] at hm0
              have M0 := hid (show Mem w.heap.size w (egL w.heap.size p cb qb pb pr X lb n lv (.slice Ao go.length co) v0 v1 v2 (lbCells v0 v1 v2) x.s x.fine (gbOf gp) (gbOf gp) (gsV gs) (gsV (gsLive gs)) (gsR qb gs) (lim x.old 0 0) (lim x.old 0 1) (lim x.old 0 2) go.length (goV n go) (gp.map (gpR qb)) (go.map goR ++ [blkR ms 4 (boolA (onPart x n 0))] ++ [blkR D 86 #[.int .u64 x.now, .slice (some ⟨ms, 0, none⟩) n n, .bool false]])) W35 from hm0)
              clear hm0 hD hms hC hmsz hDz
              go_wp2_with fail
              go_loopw [13] (fun i2 w2r => ∃ q2 : Nat, q2 ≤ n ∧ i2 = .int .i64 q2 ∧ Mem w.heap.size w (egL w.heap.size p cb qb pb pr X lb n lv (.slice Ao go.length co) v0 v1 v2 (lbCells v0 v1 v2) x.s x.fine (gbOf gp) (gbOf gp) (gsV gs) (gsV (gsLive gs)) (gsR qb gs) (lim x.old 0 0) (lim x.old 0 1) (lim x.old 0 2) go.length (goV n go) (gp.map (gpR qb)) (go.map goR ++ [blkR ms 4 (boolA (onPart x n q2))] ++ [blkR D 86 #[.int .u64 x.now, .slice (some ⟨ms, 0, none⟩) n n, .bool false]])) w2r) (fun i2 _ => n - (intOf i2).toNat)
              case atStart => exact ⟨0, Nat.zero_le _, rfl, M0.out⟩
              case round =>
                obtain ⟨q2, hq2, rfl, hM⟩ := hrel
                by_cases hql : q2 < n
                · have d2 : decide (q2 < n) = true := decide_eq_true hql
                  have d2' : decide ((q2 : Int) < (n : Int)) = true := decide_eq_true (by omega)
                  have hL9 : (gp.map (gpR qb)).length = n := by rw [List.length_map]; exact H.out.gl
                  have hDB : Blk wr D 86 #[.int .u64 x.now, .slice (some ⟨ms, 0, none⟩) n n, .bool false] := hM.each (10 + n + (go.length + 1)) _ (egL_atO (r := blkR D 86 #[.int .u64 x.now, .slice (some ⟨ms, 0, none⟩) n n, .bool false]) hL9 (by simp))
                  have hMB : Blk wr ms 4 (boolA (onPart x n q2)) := hM.each (10 + n + go.length) _ (egL_atO (r := blkR ms 4 (boolA (onPart x n q2))) hL9 (by simp))
                  have d1q := hDB.cell 1
                  obtain ⟨zv, zw⟩ : ∃ v, wr.cell? ⟨ms, q2, none⟩ = some v := ⟨_, (hMB.cell q2).trans (boolA_at (l := onPart x n q2) (by unfold onPart; rw [List.length_append, List.length_take, List.length_map, H.out.inv.pl, List.length_replicate]; omega))⟩
                  have zf := hMB.free q2
                  have z3 : wr.cell? ⟨X, 3, none⟩ = some (.slice (some ⟨pr, 0, none⟩) n n) := (hM.each 3 _ rfl).cell 3
                  obtain ⟨o, ho⟩ : ∃ o, gp[q2]? = some o := ⟨_, List.getElem?_eq_getElem (by rw [H.out.gl]; exact hql)⟩
                  have HP := hid ho
                  have HQL := hid hql
                  have MI := hid hM
                  have hL9 := hid hL9
                  clear ho hDB hMB hM
                  have zp : wr.cell? ⟨pr, q2, none⟩ = some (pinV (o.map Prod.fst)) := (Blk.cell (MI.out.each 2 _ rfl) q2).trans (pinsA_at (gb_at HP.out))
                  match o, HP with
                  | none, HP =>
                    replace zp : wr.cell? ⟨pr, q2, none⟩ = some (.pointer none) := zp
                    have HIS := hid (show isOn (x.pin q2) = false by rw [H.out.pin_at HP.out]; rfl)
                    have hL9 := hL9.out
                    go_wp2_with fail
                    refine Mix.wp_region_mix (fun _ => True) (fun i => ([0, 0, 0, 0, 0, 0, 0, 0, 0, 0, 0, 0, 0, 0, 0, 0, 0, 0, 0, 0, 0, 0, 0, 2] : List Nat).getD i 0) [0, 1, 2, 3, 4, 5, 6, 7, 8, 9, 10, 11, 12, 13, 14, 15, 16, 17, 18, 19, 20, 21, 22, 23] (by kernel_rfl) (by kernel_rfl) ?_
                    repeat (first | (refine Mix.mix_q (by simp only [List.getElem?_toArray, List.getElem?_cons_zero, List.getElem?_cons_succ]; exact rfl) rfl ?_; go_big_quiet_step (fail); refine wpQuiet_nil ?_) | (refine Mix.mix_p (by simp only [List.getElem?_toArray, List.getElem?_cons_zero, List.getElem?_cons_succ]; exact rfl) rfl rfl ?_; go_big_quiet_step (fail); refine wpQuiet_nil ?_))
                    refine Mix.mix_e (by simp only [List.getElem?_toArray, List.getElem?_cons_zero, List.getElem?_cons_succ]; exact rfl) rfl fun Wc hWc => ?_
                    obtain ⟨n7, rfl⟩ := hWc
                    go_wp2_with fail
                    intro n8
                    have HN := hid (((MI.out.drewN n7).putOn hL9 q2 false).drewN n8)
                    clear d1q zv zw d2 d2' z3 zp zf
                    go_wp2_with fail
                    go_roundw
                    case rel => exact ⟨q2 + 1, by omega, by go_num, by rw [onPart_succ H.out.inv.pl HQL.out, HIS.out]; exact HN.out⟩
                    case measure => have := HQL.out; simp [intOf]; omega
                  | some (g, qn), HP =>
                    replace zp : wr.cell? ⟨pr, q2, none⟩ = some (.pointer (some ⟨g, 0, none⟩)) := zp
                    have HIS := hid (show isOn (x.pin q2) = (qn.ph == 0) by rw [H.out.pin_at HP.out]; rfl)
                    have HB := hid (show Blk wr g 117 (pnCells qb g qn) from MI.out.each (10 + q2) _ (egL_at9 (r := gpR qb (some (g, qn))) (by simp [HP.out])))
                    have hL9 := hL9.out
                    go_wp2_with fail
                    refine Mix.wp_region_mix (fun _ => True) (fun i => ([0, 0, 0, 0, 0, 0, 0, 0, 0, 0, 0, 0, 0, 0, 0, 0, 0, 0, 0, 0, 0, 0, 0, 2] : List Nat).getD i 0) [0, 1, 2, 3, 4, 5, 6, 7, 8, 9, 10, 11, 12, 13, 14, 15, 16, 17, 18, 19, 20, 21, 22, 23] (by kernel_rfl) (by kernel_rfl) ?_
                    repeat (first | (refine Mix.mix_q (by simp only [List.getElem?_toArray, List.getElem?_cons_zero, List.getElem?_cons_succ]; exact rfl) rfl ?_; go_big_quiet_step ((go_at_call 21; exact epn_next_q HB.out _)); refine wpQuiet_nil ?_) | (refine Mix.mix_p (by simp only [List.getElem?_toArray, List.getElem?_cons_zero, List.getElem?_cons_succ]; exact rfl) rfl rfl ?_; go_big_quiet_step (fail); refine wpQuiet_nil ?_))
                    refine Mix.mix_e (by simp only [List.getElem?_toArray, List.getElem?_cons_zero, List.getElem?_cons_succ]; exact rfl) rfl fun Wc hWc => ?_
                    obtain ⟨n7, rfl⟩ := hWc
                    go_wp2_with fail
                    intro n8
                    have HN := hid (((MI.out.drewN n7).putOn hL9 q2 (qn.ph == 0)).drewN n8)
                    clear d1q zv zw d2 d2' z3 zp zf
                    go_wp2_with fail
                    go_roundw
                    case rel => exact ⟨q2 + 1, by omega, by go_num, by rw [onPart_succ H.out.inv.pl HQL.out, HIS.out]; exact HN.out⟩
                    case measure => have := HQL.out; simp [intOf]; omega
                · have hqn : q2 = n := by omega
                  subst hqn
                  have d2 : decide (q2 < q2) = false := decide_eq_false (by omega)
                  have d2' : decide ((q2 : Int) < (q2 : Int)) = false := decide_eq_false (by omega)
                  rw [onPart_all H.out.inv.pl] at hM
                  have hL9 : (gp.map (gpR qb)).length = q2 := by rw [List.length_map]; exact H.out.gl
                  have hDB : Blk wr D 86 #[.int .u64 x.now, .slice (some ⟨ms, 0, none⟩) q2 q2, .bool false] := hM.each (10 + q2 + (go.length + 1)) _ (egL_atO (r := blkR D 86 #[.int .u64 x.now, .slice (some ⟨ms, 0, none⟩) q2 q2, .bool false]) hL9 (by simp))
                  have HDB := hid hDB
                  have b0 := hDB.cell 0
                  have b1 := hDB.cell 1
                  have b2 := hDB.cell 2
                  have x5 : wr.cell? ⟨X, 5, none⟩ = some (.slice Ao go.length co) := (hM.each 3 _ rfl).cell 5
                  have MI := hid hM
                  obtain ⟨S, hS⟩ : ∃ S : Nat → Prop, ∀ k, S k ↔ k < wr.heap.size := ⟨_, fun _ => Iff.rfl⟩
                  have hS1 : Mix.Has S X := (hS _).2 (Blk.lt (hM.each 3 _ rfl))
                  have HS := hid hS
                  clear hM hDB hL9 hS d2 d2'
                  go_wp2_with fail
                  refine Mix.wp_region_mix S (fun i => ([1, 1, 1, 1, 4, 0, 3, 2, 0, 0, 2] : List Nat).getD i 0) [0, 1, 2, 3, 4, 5, 6, 7, 8, 9, 10] (by kernel_rfl) (by kernel_rfl) ?_
                  repeat (first | (refine Mix.mix_q (by simp only [List.getElem?_toArray, List.getElem?_cons_zero, List.getElem?_cons_succ]; exact rfl) rfl ?_; go_big_quiet_step (fail); refine wpQuiet_nil ?_) | (refine Mix.mix_p (by simp only [List.getElem?_toArray, List.getElem?_cons_zero, List.getElem?_cons_succ]; exact rfl) rfl rfl ?_; go_big_quiet_step (fail); refine wpQuiet_nil ?_) | (refine Mix.mix_s (by simp only [List.getElem?_toArray, List.getElem?_cons_zero, List.getElem?_cons_succ]; exact rfl) rfl rfl ?_; go_big_quiet_step (fail); refine wpQuiet_nil ?_))
                  refine Mix.mix_a (by simp only [List.getElem?_toArray, List.getElem?_cons_zero, List.getElem?_cons_succ]; exact rfl) rfl fun Wd hWd => ?_
                  obtain ⟨n5, rfl⟩ := hWd
                  go_wp2_with fail
                  refine ⟨fun j' hj' => ((((Ch.refl (fun _ => False) wr).drewN n5).alloc _).block j' ((HS.out j').1 hj') id), Mix.mix_world fun w6 hw6 => ?_⟩
                  have c6 : Ch (fun _ => False) wr w6 := by rw [hw6]; exact ((Ch.refl _ wr).drewN n5).alloc _
                  have t6 : Blk w6 wr.heap.size 86 #[.int .u64 x.now, .slice (some ⟨ms, 0, none⟩) q2 q2, .bool false] := by rw [hw6]; exact Blk.new (wr.drewN n5) _ _
                  have M6 := hid (MI.out.keep c6)
                  clear hw6 c6 hS1 HS b0 b1 b2 x5
                  refine Mix.mix_e (by simp only [List.getElem?_toArray, List.getElem?_cons_zero, List.getElem?_cons_succ]; exact rfl) rfl fun We hWe => ?_
                  obtain ⟨n7, rfl⟩ := hWe
                  obtain ⟨i0, hi, hz0, hz1, hz2⟩ := info_parts (show (Try.prog.info? 86).map (fun i => (i.zero, i.size, i.bytes)) = some (some (.agg #[.int .u64 0, .slice none 0 0, .bool false]), 3, 40) by kernel_rfl)
                  refine wpList_app _ rfl _ _ 79 rfl w.heap.size 86 i0 _ 3 40 Try.underlying79 hi hz0 hz1 hz2 rfl (by decide) _ _ _ rfl (show (w6.drewN n7).ownsRow w.heap.size 86 3 (.slice Ao go.length co) go.length (goV q2 go) from M6.out.each 8 _ rfl) ⟨wr.heap.size, 0, none⟩ 1 1 [.int .u64 x.now, .slice (some ⟨ms, 0, none⟩) q2 q2, .bool false] rfl rfl ?c1 ?c2 (by decide) ?c3 ?c4 ?c5 ?_
                  case c1 => intro j' u hu; rw [addr_add0]; exact ((t6.drewN n7).cell j').trans (by simpa using hu)
                  case c2 => intro u hu; simp at hu; rcases hu with rfl | rfl | rfl <;> rfl
                  case c3 => unfold maxLen; omega
                  case c4 => omega
                  case c5 => exact M6.out.bz
                  intro v' w7 hown7 hgrow7 hfresh7
                  have hm7 := (M6.out.drewN n7).app (i := 8) (n' := go.length + 1) (xs' := goV q2 (go ++ [(ms, (⟨x.now, x.ps.map isOn, false⟩ : Rt))])) rfl (by rw [goV_app]; exact hown7) hgrow7 hfresh7
                  obtain ⟨A', c', hv', _⟩ := own_slice hown7
                  subst hv'
                  have x5 : w7.cell? ⟨X, 5, none⟩ = some (.slice Ao go.length co) := (hm7.each 3 _ rfl).cell 5
                  have fx5 := Blk.free (hm7.each 3 _ rfl) 5
                  have M7 := hid hm7
                  clear hown7 hgrow7 hfresh7 hm7 t6
                  go_wp2_with fail
                  repeat (first | (refine Mix.mix_q (by simp only [List.getElem?_toArray, List.getElem?_cons_zero, List.getElem?_cons_succ]; exact rfl) rfl ?_; go_big_quiet_step (fail); refine wpQuiet_nil ?_) | (refine Mix.mix_p (by simp only [List.getElem?_toArray, List.getElem?_cons_zero, List.getElem?_cons_succ]; exact rfl) rfl rfl ?_; go_big_quiet_step (fail); refine wpQuiet_nil ?_) | (refine Mix.mix_s (by simp only [List.getElem?_toArray, List.getElem?_cons_zero, List.getElem?_cons_succ]; exact rfl) rfl rfl ?_; go_big_quiet_step (fail); refine wpQuiet_nil ?_))
                  refine Mix.mix_e (by simp only [List.getElem?_toArray, List.getElem?_cons_zero, List.getElem?_cons_succ]; exact rfl) rfl fun Wf hWf => ?_
                  obtain ⟨n8, rfl⟩ := hWf
                  go_wp2_with fail
                  intro n9
                  have m8 : Mem w.heap.size w (egL w.heap.size p cb qb pb pr X lb q2 lv (.slice A' (go.length + 1) c') v0 v1 v2 (lbCells v0 v1 v2) x.s x.fine (gbOf gp) (gbOf gp) (gsV gs) (gsV (gsLive gs)) (gsR qb gs) (lim x.old 0 0) (lim x.old 0 1) (lim x.old 0 2) (go.length + 1) (goV q2 (go ++ [(ms, (⟨x.now, x.ps.map isOn, false⟩ : Rt))])) (gp.map (gpR qb)) (go.map goR ++ [blkR ms 4 (boolA (x.ps.map isOn))] ++ [blkR D 86 #[.int .u64 x.now, .slice (some ⟨ms, 0, none⟩) q2 q2, .bool false]])) (((w7.drewN n8).setCell ⟨X, 5, none⟩ (.slice A' (go.length + 1) c')).drewN n9) := ((M7.out.drewN n8).put (i := 3) rfl 5 (.slice A' (go.length + 1) c')).drewN n9
                  obtain ⟨w8, hw8⟩ : ∃ w8, w8 = ((w7.drewN n8).setCell ⟨X, 5, none⟩ (.slice A' (go.length + 1) c')).drewN n9 := ⟨_, rfl⟩
                  rw [← hw8] at m8 ⊢
                  clear hw8 x5 fx5
                  have hL9 : (gp.map (gpR qb)).length = q2 := by rw [List.length_map]; exact H.out.gl
                  have hDB : Blk w8 D 86 #[.int .u64 x.now, .slice (some ⟨ms, 0, none⟩) q2 q2, .bool false] := m8.each (10 + q2 + (go.length + 1)) _ (egL_atO (r := blkR D 86 #[.int .u64 x.now, .slice (some ⟨ms, 0, none⟩) q2 q2, .bool false]) hL9 (by simp))
                  have b0 := hDB.cell 0
                  have x5 : w8.cell? ⟨X, 5, none⟩ = some (.slice A' (go.length + 1) c') := (m8.each 3 _ rfl).cell 5
                  have x2 : w8.cell? ⟨X, 2, none⟩ = some (.pointer (some ⟨lb, 0, none⟩)) := (m8.each 3 _ rfl).cell 2
                  obtain ⟨S, hS⟩ : ∃ S : Nat → Prop, ∀ k, S k ↔ k < w8.heap.size := ⟨_, fun _ => Iff.rfl⟩
                  have hS1 : Mix.Has S X := (hS _).2 (Blk.lt (m8.each 3 _ rfl))
                  have hS2 : Mix.Has S D := (hS _).2 hDB.lt
                  have HS := hid hS
                  have M8 := hid m8
                  clear m8 hDB hL9 hS
                  go_wp2_with fail
                  refine Mix.wp_region_mix S (fun i => ([1, 1, 1, 4, 1, 4, 0, 0, 0, 0, 0, 0, 3, 2, 0] : List Nat).getD i 0) [0, 1, 2, 3, 4, 5, 6, 7, 8, 9, 10, 11, 12, 13, 14] (by kernel_rfl) (by kernel_rfl) ?_
                  repeat (first | (refine Mix.mix_q (by simp only [List.getElem?_toArray, List.getElem?_cons_zero, List.getElem?_cons_succ]; exact rfl) rfl ?_; go_big_quiet_step (fail); refine wpQuiet_nil ?_) | (refine Mix.mix_p (by simp only [List.getElem?_toArray, List.getElem?_cons_zero, List.getElem?_cons_succ]; exact rfl) rfl rfl ?_; go_big_quiet_step (fail); refine wpQuiet_nil ?_) | (refine Mix.mix_s (by simp only [List.getElem?_toArray, List.getElem?_cons_zero, List.getElem?_cons_succ]; exact rfl) rfl rfl ?_; go_big_quiet_step (fail); refine wpQuiet_nil ?_))
                  refine Mix.mix_a (by simp only [List.getElem?_toArray, List.getElem?_cons_zero, List.getElem?_cons_succ]; exact rfl) rfl fun Wg hWg => ?_
                  obtain ⟨na, rfl⟩ := hWg
                  go_wp2_with fail
                  refine ⟨fun j' hj' => ((((Ch.refl (fun _ => False) w8).drewN na).alloc _).block j' ((HS.out j').1 hj') id), Mix.mix_world fun w9 hw9 => ?_⟩
                  have t9 : Blk w9 w8.heap.size 92 #[.int .u64 ((go.length : Int) + 1)] := by rw [hw9]; exact Blk.new (w8.drewN na) _ _
                  have M9 := hid (M8.out.keep (w' := w9) (by rw [hw9]; exact ((Ch.refl _ w8).drewN na).alloc _))
                  have T9 := hid t9
                  clear hw9 hS1 hS2 HS b0 x5 x2 t9
                  refine Mix.mix_e (by simp only [List.getElem?_toArray, List.getElem?_cons_zero, List.getElem?_cons_succ]; exact rfl) rfl fun Wh hWh => ?_
                  obtain ⟨nb, rfl⟩ := hWh
                  go_wp2_with fail
                  refine (retire_run w.heap.size lb v0 v1 v2 (lim x.old 0 0) (lim x.old 0 1) (lim x.old 0 2) (w9.drewN nb) (M9.out.each 4 _ rfl) (M9.out.each 5 _ rfl) (M9.out.each 6 _ rfl) (M9.out.each 7 _ rfl) x.now ⟨H.out.inv.nw.1, by have := H.out.inv.nw.2; omega⟩ w8.heap.size 0 1 1 [(go.length : Int) + 1] rfl (Nat.le_refl _) (fun i u hu => by rw [Nat.zero_add]; exact ((T9.out.drewN nb).cell i).trans (by simpa [hvs] using hu)) (by decide) (by
                    have e1 := limAll_len x.old
                    have e2 : x.old.length = go.length := by rw [H.out.old, List.length_map]
                    unfold limAll at e1
                    omega) M9.out.bz (by simp; omega)).mono ?_
                  rintro e wj hret
                  have hnd : ((lim x.old 0 0 ++ lim x.old 0 1 ++ lim x.old 0 2) ++ [(go.length : Int) + 1]).Nodup := by
                    have t := limAll_fresh x.old
                    rw [show x.old.length = go.length by rw [H.out.old, List.length_map]] at t
                    exact t
                  rcases hret with ⟨hc, _⟩ | ⟨_, rfl, hret⟩
                  · exact absurd hnd hc
                  obtain ⟨u0, u1, u2, hR⟩ := H.out.ret (by omega) (ov' := (.slice A' (go.length + 1) c')) (ms := ms) rfl (by have t := (M9.out.drewN nb); exact t.dropD) hret
                  have HR := hid hR
                  clear hret hnd hR
                  go_wp2_with fail
                  repeat (first | (refine Mix.mix_q (by simp only [List.getElem?_toArray, List.getElem?_cons_zero, List.getElem?_cons_succ]; exact rfl) rfl ?_; go_big_quiet_step (fail); refine wpQuiet_nil ?_) | (refine Mix.mix_p (by simp only [List.getElem?_toArray, List.getElem?_cons_zero, List.getElem?_cons_succ]; exact rfl) rfl rfl ?_; go_big_quiet_step (fail); refine wpQuiet_nil ?_))
                  intro nz
                  go_wp2_with fail
                  go_roundw
                  case rel => exact ⟨j + 1, by omega, by go_num, _, _, _, _, _, _, _, _, _, HR.out.drewN nz, ginv_ret HG.out⟩
                  case measure => simp [intOf]; omega
      · have e0 : (ev.d % 5 == 0) = false := by rw [beq_eq_false_iff_ne]; omega
        have e1 : (ev.d % 5 == 1) = false := by rw [beq_eq_false_iff_ne]; omega
        have e2 : (ev.d % 5 == 2) = false := by rw [beq_eq_false_iff_ne]; omega
        have e3 : (ev.d % 5 == 3) = false := by rw [beq_eq_false_iff_ne]; omega
        clear h4
        as_aux_lemma =>
          by_cases hn0 : n = 0
          · have dn : decide (0 < n) = false := decide_eq_false (by omega)
            have dn' : decide ((0 : Int) < (n : Int)) = false := decide_eq_false (by omega)
            have dz : ((n : Int) == 0) = true := by rw [beq_iff_eq]; omega
            have dz' : (n == 0) = true := by rw [beq_iff_eq]; omega
            clear c2 hn0
            go_wp2_with fail
            clear c0
            refine (xscan_any (gbOf gp) w.heap.size p cb qb pb pr X lb n j lv ov v0 v1 v2 x gp gs go w wr H.out (by omega)).mono ?_
            rintro e w2 ⟨rfl, lv', u0, u1, u2, gs', go', h2⟩
            have H2 := hid h2
            clear h2
            go_wp2_with fail
            go_roundw
            case rel => exact ⟨j + 1, by omega, by go_num, _, _, _, _, _, _, _, _, _, H2.out, ginv_scan HG.out (by omega)⟩
            case measure => simp [intOf]; omega
          · obtain ⟨⟨t1, t2⟩, k, hkn, hkk⟩ := slot_of ev.k n (by omega) hn
            have dn : decide (0 < n) = true := decide_eq_true (by omega)
            have dn' : decide ((0 : Int) < (n : Int)) = true := decide_eq_true (by omega)
            have dz : ((n : Int) == 0) = false := by rw [beq_eq_false_iff_ne]; omega
            have dz' : (n == 0) = false := by rw [beq_eq_false_iff_ne]; omega
            have hnz : ¬ (n : Int) = 0 := by omega
            obtain ⟨t, ht⟩ : ∃ t, ev.k.tmod n = t := ⟨_, rfl⟩
            rw [ht] at t1 t2 hkk
            have hpos : 0 ≤ t + (n : Int) := by omega
            have hle : t + (n : Int) ≤ 10 := by omega
            go_wp2_with fail
            clear c0 c2
            refine (xscan_any (gbOf gp) w.heap.size p cb qb pb pr X lb n j lv ov v0 v1 v2 x gp gs go w wr H.out (by omega)).mono ?_
            rintro e w2 ⟨rfl, lv', u0, u1, u2, gs', go', h2⟩
            have H2 := hid h2
            clear h2
            go_wp2_with fail
            go_roundw
            case rel => exact ⟨j + 1, by omega, by go_num, _, _, _, _, _, _, _, _, _, H2.out, ginv_scan HG.out (by omega)⟩
            case measure => simp [intOf]; omega
    · obtain rfl : j = len := by omega
      have d1 : decide (j < j) = false := decide_eq_false (by omega)
      have d1' : decide ((j : Int) < (j : Int)) = false := decide_eq_false (by omega)
      have H := hid hR
      clear hR
      go_wp2_with fail
      go_ret
      exact ⟨p, cb, qb, pb, pr, X, lb, rfl, lv, ov, v0, v1, v2, x, gp, gs, go, H.out, hG⟩
end Go.Proofs.Ytokcodeeaneeaaa
