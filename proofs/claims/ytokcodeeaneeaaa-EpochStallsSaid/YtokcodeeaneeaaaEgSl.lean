/- EpochStalls: the walk. -/
import Derived.Test.YtokcodeeaneeaaaEgRc
import Derived.Test.YtokcodeeaneeaaaEgA
namespace Go.Proofs.Ytokcodeeaneeaaa
open Go.RowKit
set_option linter.unusedVariables false
set_option linter.unusedSimpArgs false
set_option linter.unusedSectionVars false

set_option maxRecDepth 100000 in
set_option maxHeartbeats 4000000 in
theorem stalls_walk (n : Int) (a : Option Addr) (nl cl : Nat) (ls : List (List Value)) (a2 : Option Addr) (nm cm : Nat) (ms : List (List Value)) (w : World) (hn : (Lit.int .i64 n).wf = true) (hx : InRows evGKs w a nl ls) (hy : InRows evGKs w a2 nm ms) :
    Calls Try.prog 6 #[.int .i64 n, .slice a nl cl, .slice a2 nm cm] w fun e w' => e = .returned (.bool true) ∧ Below w.heap.size w w' := by
  obtain ⟨xs, hev⟩ := in_evg hx
  have HE := hid hev
  obtain ⟨ys, hew⟩ := in_evg hy
  have HE2 := hid hew
  clear hx hev hy hew
  by_cases h1 : n < 1
  · have d1 : decide (n < 1) = true := decide_eq_true h1
    go_enter Try.func6, Try.ntmps6
    go_wp2_with fail
    go_ret
    exact ⟨rfl, Below.refl _ _⟩
  have d1 : decide (n < 1) = false := decide_eq_false h1
  by_cases h2 : 5 < n
  · have d2 : decide (5 < n) = true := decide_eq_true h2
    go_enter Try.func6, Try.ntmps6
    go_wp2_with fail
    go_ret
    exact ⟨rfl, Below.refl _ _⟩
  have d2 : decide (5 < n) = false := decide_eq_false h2
  by_cases h3 : 200 < nl
  · have d3 : decide (200 < nl) = true := decide_eq_true h3
    have d3' : decide ((200 : Int) < (nl : Int)) = true := decide_eq_true (by omega)
    go_enter Try.func6, Try.ntmps6
    go_wp2_with fail
    go_ret
    exact ⟨rfl, Below.refl _ _⟩
  have d3 : decide (200 < nl) = false := decide_eq_false h3
  have d3' : decide ((200 : Int) < (nl : Int)) = false := decide_eq_false (by omega)
  by_cases h4 : 60 < nm
  · have d4 : decide (60 < nm) = true := decide_eq_true h4
    have d4' : decide ((60 : Int) < (nm : Int)) = true := decide_eq_true (by omega)
    go_enter Try.func6, Try.ntmps6
    go_wp2_with fail
    go_ret
    exact ⟨rfl, Below.refl _ _⟩
  have d4 : decide (60 < nm) = false := decide_eq_false h4
  have d4' : decide ((60 : Int) < (nm : Int)) = false := decide_eq_false (by omega)
  obtain ⟨m, rfl⟩ := Int.eq_ofNat_of_zero_le (show 0 ≤ n by omega)
  have hm5 : m ≤ 5 := by omega
  go_enter Try.func6, Try.ntmps6
  go_wp2_with fail
  refine (egrun_any m hm5 a nl cl xs w HE.out (by omega)).mono ?_
  rintro e w1 ⟨p, cb, qb, pb, pr, X, lb, rfl, lv, ov, v0, v1, v2, x, gp, gs, go, hR, hG⟩
  have H := hid hR
  have HG := hid hG
  have H0 := hid (show EgAt (gbOf gp) w.heap.size p cb qb pb pr X lb m nl x gp w w1 from ⟨lv, ov, v0, v1, v2, gs, go, hR⟩)
  have hnl : nl ≤ 300 := by omega
  clear hR hG H HG
  have x1 := H0.out.c1
  have x3 := H0.out.c3
  go_wp2_with fail
  go_loopw [8, 9] (fun h i wr => ∃ k : Nat, k ≤ m ∧ i = .int .i64 k ∧ wr = w1 ∧ (h = .int .i64 (-1) ∨ ∃ (j : Nat) (g : Nat) (q : Pn), j < m ∧ h = .int .i64 j ∧ gp[j]? = some (some (g, q)) ∧ q.ph = 0)) (fun _ i _ => m - (intOf i).toNat)
  case atStart => exact ⟨0, Nat.zero_le _, rfl, rfl, .inl rfl⟩
  case round =>
    obtain ⟨k, hk, rfl, rfl, hh⟩ := hrel
    by_cases hkm : k < m
    · have d5 : decide (k < m) = true := decide_eq_true hkm
      have d5' : decide ((k : Int) < (m : Int)) = true := decide_eq_true (by omega)
      obtain ⟨o, ho⟩ : ∃ o, gp[k]? = some o := ⟨_, List.getElem?_eq_getElem (by rw [H0.out.gl]; exact hkm)⟩
      have pk := (H0.out.pins (gb_at ho)).1
      have HP := hid ho
      have HH := hid hh
      clear ho hh
      match o, HP with
      | none, HP =>
        replace pk : wr.cell? ⟨pr, k, none⟩ = some (.pointer none) := pk
        go_wp2_with fail
        go_roundw
        case rel => exact ⟨k + 1, by omega, by go_num, by first | rfl | trivial, HH.out⟩
        case measure => simp [intOf]; omega
      | some (g, q), HP =>
        replace pk : wr.cell? ⟨pr, k, none⟩ = some (.pointer (some ⟨g, 0, none⟩)) := pk
        go_wp2_with fail
        refine (H0.out.next HP.out).mono ?_
        rintro e w2 ⟨rfl, rfl⟩
        by_cases hph : q.ph = 0
        · have bph : (q.ph == 0) = true := by rw [beq_iff_eq]; exact hph
          have HPH := hid hph
          clear hph
          go_wp2_with fail
          go_roundw
          case rel => exact ⟨k + 1, by omega, by go_num, by first | rfl | trivial, .inr ⟨k, g, q, hkm, rfl, HP.out, HPH.out⟩⟩
          case measure => simp [intOf]; omega
        · have bph : (q.ph == 0) = false := by rw [beq_eq_false_iff_ne]; exact hph
          clear hph
          go_wp2_with fail
          go_roundw
          case rel => exact ⟨k + 1, by omega, by go_num, by first | rfl | trivial, HH.out⟩
          case measure => simp [intOf]; omega
    · obtain rfl : k = m := by omega
      have d5 : decide (k < k) = false := decide_eq_false (by omega)
      have d5' : decide ((k : Int) < (k : Int)) = false := decide_eq_false (by omega)
      rcases hh with rfl | ⟨h, gh, q, hj, rfl, hgh, hq0⟩
      · go_wp2_with fail
        go_ret
        exact ⟨rfl, H0.out.bel⟩
      · have dh : decide ((h : Int) < 0) = false := decide_eq_false (by omega)
        go_wp2_with fail
        refine H0.out.now.mono ?_
        rintro e w2 ⟨rfl, n2, rfl⟩
        have H1 := hid (H0.out.drewN n2)
        have hhe : Held h x.now x := by
          have hp := H0.out.pin_at hgh
          have hk := H0.out.inv.pk h hj
          rw [hp] at hk
          obtain ⟨_, _, h3⟩ := hk
          refine ⟨q, hp, hq0, ?_, Int.le_refl _, by omega, fun e => by omega⟩
          rcases h3 with ⟨e, _⟩ | ⟨e, _⟩ | ⟨_, _, _, e⟩
          · rw [hq0] at e; cases e
          · rw [hq0] at e; cases e
          · exact e
        have HHE0 := hid hhe
        obtain ⟨was, hwas⟩ : ∃ z, z = x.now := ⟨_, rfl⟩
        rw [← hwas] at HHE0 ⊢
        have hwb : 0 ≤ was ∧ was ≤ 400000 := by have := H0.out.inv.nw; omega
        clear hhe hwas hgh hq0
        go_wp2_with fail
        go_loopw [11] (fun i2 wr => ∃ c : Nat, c ≤ nm ∧ i2 = .int .i64 c ∧ ∃ y gq, EgAt (gbOf gq) w.heap.size p cb qb pb pr X lb k (nl + c) y gq w wr ∧ Held h was y) (fun i2 _ => nm - (intOf i2).toNat)
        case atStart => exact ⟨0, Nat.zero_le _, rfl, _, _, H1.out, HHE0.out⟩
        case round =>
          obtain ⟨c, hc, rfl, y, gq, hA, hhe⟩ := hrel
          have HA := hid hA
          have HHE := hid hhe
          clear hA hhe
          by_cases hlt : c < nm
          · have d6 : decide (c < nm) = true := decide_eq_true hlt
            have d6' : decide ((c : Int) < (nm : Int)) = true := decide_eq_true (by omega)
            have hxl := HE2.out.1
            obtain ⟨b, off, rfl, hbl, hcell⟩ := HE2.out.2.2 (by omega)
            obtain ⟨ev, hev⟩ : ∃ ev, ys[c]? = some ev := ⟨_, List.getElem?_eq_getElem (by omega)⟩
            have ek1 := (HE2.out.2.1 ev (List.mem_of_getElem? hev)).1
            have c0 := (HA.out.bel.cell (p := ⟨b, off + c * 3, none⟩) hbl).trans (hcell c 0 ev _ hev rfl)
            have c2 := (HA.out.bel.cell (p := ⟨b, off + c * 3 + 2, none⟩) hbl).trans (hcell c 2 ev _ hev rfl)
            obtain ⟨⟨t1, t2⟩, kk, hkn, hkk⟩ := slot_of ev.k k (by omega) hm5
            have hnz : ¬ (k : Int) = 0 := by omega
            obtain ⟨t, ht⟩ : ∃ t, ev.k.tmod k = t := ⟨_, rfl⟩
            rw [ht] at t1 t2 hkk
            have hpos : 0 ≤ t + (k : Int) := by omega
            have hle : t + (k : Int) ≤ 10 := by omega
            clear hev hcell
            by_cases h4' : ev.d % 5 = 4
            · have e4 : (ev.d % 5 == 4) = true := by rw [beq_iff_eq]; exact h4'
              clear h4'
              go_wp2_with fail
              refine (HA.out.scan (by omega)).mono ?_
              rintro e w2 ⟨rfl, h2⟩
              have H2 := hid h2
              clear h2 c0 c2
              go_wp2_with fail
              go_roundw
              case rel => exact ⟨c + 1, by omega, by go_num, _, _, H2.out, held_scan HA.out.inv (by omega) hj HHE.out⟩
              case measure => simp [intOf]; omega
            have e4 : (ev.d % 5 == 4) = false := by rw [beq_eq_false_iff_ne]; exact h4'
            by_cases h2' : ev.d % 5 = 2
            · have e2 : (ev.d % 5 == 2) = true := by rw [beq_iff_eq]; exact h2'
              have dl : decide (ev.d % 5 < 2) = false := decide_eq_false (by omega)
              clear h2' h4'
              by_cases hkj : kk = h
              · have bk : ((kk : Int) != (h : Int)) = false := by rw [bne_eq_false_iff_eq]; omega
                have bk' : (kk != h) = false := by rw [bne_eq_false_iff_eq]; exact hkj
                clear hkj
                go_wp2_with fail
                go_roundw
                case rel => exact ⟨c + 1, by omega, by go_num, _, _, HA.out.le (by omega) (by omega), HHE.out⟩
                case measure => simp [intOf]; omega
              · have bk : ((kk : Int) != (h : Int)) = true := by rw [bne_iff_ne]; omega
                have bk' : (kk != h) = true := by rw [bne_iff_ne]; exact hkj
                obtain ⟨o, ho⟩ : ∃ o, gq[kk]? = some o := ⟨_, List.getElem?_eq_getElem (by rw [HA.out.gl]; exact hkn)⟩
                have x3 := HA.out.c3
                have x1 := HA.out.c1
                have pk := (HA.out.pins (gb_at ho)).1
                have HP := hid ho
                clear ho
                match o, HP with
                | none, HP =>
                  replace pk : wr.cell? ⟨pr, kk, none⟩ = some (.pointer none) := pk
                  go_wp2_with fail
                  go_roundw
                  case rel => exact ⟨c + 1, by omega, by go_num, _, _, HA.out.le (by omega) (by omega), HHE.out⟩
                  case measure => simp [intOf]; omega
                | some (g, q), HP =>
                  replace pk : wr.cell? ⟨pr, kk, none⟩ = some (.pointer (some ⟨g, 0, none⟩)) := pk
                  go_wp2_with fail
                  refine (HA.out.next HP.out).mono ?_
                  rintro e w2 ⟨rfl, rfl⟩
                  by_cases hph : q.ph = 0
                  · have bph : (q.ph == 0) = true := by rw [beq_iff_eq]; exact hph
                    have HPH := hid hph
                    clear hph
                    go_wp2_with fail
                    refine (HA.out.unpin (by omega) HP.out HPH.out).mono ?_
                    rintro e w3 ⟨rfl, h3⟩
                    have H3 := hid h3
                    clear h3 x1 x3 pk c0 c2
                    have x3 := H3.out.c3
                    have pk := (H3.out.pins (gb_at HP.out)).1
                    replace pk : w3.cell? ⟨pr, kk, none⟩ = some (.pointer (some ⟨g, 0, none⟩)) := pk
                    have fpk := (H3.out.pins (gb_at HP.out)).2
                    have H4 := hid (H3.out.put kk none)
                    go_wp2_with fail
                    go_roundw
                    case rel => exact ⟨c + 1, by omega, by go_num, _, gq.set kk none, by rw [gb_set]; exact H4.out, held_unpin0 HA.out.inv hkn (fun e => hkj e.symm) HHE.out⟩
                    case measure => simp [intOf]; omega
                  · have bph : (q.ph == 0) = false := by rw [beq_eq_false_iff_ne]; exact hph
                    clear hph
                    go_wp2_with fail
                    go_roundw
                    case rel => exact ⟨c + 1, by omega, by go_num, _, _, HA.out.le (by omega) (by omega), HHE.out⟩
                    case measure => simp [intOf]; omega
            have e2 : (ev.d % 5 == 2) = false := by rw [beq_eq_false_iff_ne]; exact h2'
            by_cases h1' : ev.d % 5 < 2
            · have dl : decide (ev.d % 5 < 2) = true := decide_eq_true h1'
              clear h1' h2' h4'
              obtain ⟨o, ho⟩ : ∃ o, gq[kk]? = some o := ⟨_, List.getElem?_eq_getElem (by rw [HA.out.gl]; exact hkn)⟩
              have x3 := HA.out.c3
              have x1 := HA.out.c1
              have pk := (HA.out.pins (gb_at ho)).1
              have HP := hid ho
              clear ho
              match o, HP with
              | none, HP =>
                replace pk : wr.cell? ⟨pr, kk, none⟩ = some (.pointer none) := pk
                go_wp2_with fail
                go_roundw
                case rel => exact ⟨c + 1, by omega, by go_num, _, _, HA.out.le (by omega) (by omega), HHE.out⟩
                case measure => simp [intOf]; omega
              | some (g, q), HP =>
                replace pk : wr.cell? ⟨pr, kk, none⟩ = some (.pointer (some ⟨g, 0, none⟩)) := pk
                go_wp2_with fail
                refine (HA.out.next HP.out).mono ?_
                rintro e w2 ⟨rfl, rfl⟩
                by_cases hph : q.ph = 0
                · have bph : (q.ph != 0) = false := by rw [bne_eq_false_iff_eq]; exact hph
                  clear hph
                  go_wp2_with fail
                  go_roundw
                  case rel => exact ⟨c + 1, by omega, by go_num, _, _, HA.out.le (by omega) (by omega), HHE.out⟩
                  case measure => simp [intOf]; omega
                · have bph : (q.ph != 0) = true := by rw [bne_iff_ne]; exact hph
                  have HPH := hid hph
                  clear hph
                  go_wp2_with fail
                  refine (HA.out.step (by omega) HP.out HPH.out).mono ?_
                  rintro e w3 ⟨rfl, h3⟩
                  have H3 := hid h3
                  clear h3 x1 x3 pk c0 c2
                  go_wp2_with fail
                  go_roundw
                  case rel => exact ⟨c + 1, by omega, by go_num, _, gq.set kk (some (g, _)), by rw [gb_step HP.out]; exact H3.out, held_pin HA.out.inv (by omega) hkn hj HHE.out⟩
                  case measure => simp [intOf]; omega
            · have dl : decide (ev.d % 5 < 2) = false := decide_eq_false h1'
              clear h1' h2' h4'
              go_wp2_with fail
              go_roundw
              case rel => exact ⟨c + 1, by omega, by go_num, _, _, HA.out.le (by omega) (by omega), HHE.out⟩
              case measure => simp [intOf]; omega
          · obtain rfl : c = nm := by omega
            have d6 : decide (c < c) = false := decide_eq_false (by omega)
            have d6' : decide ((c : Int) < (c : Int)) = false := decide_eq_false (by omega)
            have x1 := HA.out.c1
            obtain ⟨qq, _, _, _, hw1, hw2, _⟩ := HHE.out
            go_wp2_with fail
            refine HA.out.now.mono ?_
            rintro e w2 ⟨rfl, n2, rfl⟩
            have HB := hid (HA.out.drewN n2)
            obtain ⟨z, hz⟩ : ∃ z, z = y.now := ⟨_, rfl⟩
            have HZ := hid hz
            rw [← hz] at hw1 hw2 ⊢
            have g1 : decide (was ≤ z) = true := decide_eq_true hw1
            have g2 : decide (z - was ≤ 1) = true := decide_eq_true (by omega)
            clear x1 hz
            have x1 := HB.out.c1
            go_wp2_with fail
            refine HB.out.now.mono ?_
            rintro e w3 ⟨rfl, n3, rfl⟩
            rw [← HZ.out]
            have HC := hid (HB.out.drewN n3)
            clear x1
            go_wp2_with fail
            go_ret
            exact ⟨by first | rfl | simp [g2], (HA.out.drewN _).bel⟩
end Go.Proofs.Ytokcodeeaneeaaa
