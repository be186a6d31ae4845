/- EpochSettles: the walk. -/
import Derived.Test.YtokcodeeaneeaaaEgRc
import Derived.Test.YtokcodeeaneeaaaEgA
namespace Go.Proofs.Ytokcodeeaneeaaa
open Go.RowKit
set_option linter.unusedVariables false
set_option linter.unusedSimpArgs false
set_option linter.unusedSectionVars false

theorem set_at {α : Type} {l : List α} {k : Nat} {a : α} (h : k < l.length) : (l.set k a)[k]? = some a := by
  rw [List.getElem?_set, if_pos rfl, if_pos h]
theorem xscan_now_le {n m : Nat} {x : Xr} (h : EInv n m x) (hm : m < 1000000) : x.now ≤ (xscan n x).now := by
  rcases xscan_cases h hm with ⟨a, ha, hq, hc, e⟩ | ⟨a, ha, hq, hc, e⟩ | ⟨ha, e⟩
  · rw [e]; exact Int.le_refl _
  · rw [e]; exact Int.le_refl _
  · rw [e]
    have hl : lk (x.s.store 15 0 (x.now + 1)).vs 0 = x.now + 1 := lk_set _ (by have := h.vl; show 0 < x.s.vs.length; omega)
    show x.now ≤ lk (x.s.store 15 0 (x.now + 1)).vs 0
    rw [hl]; omega
theorem pn_ph {s : BS} {n : Nat} {q : Pn} (h : q.ph = 9 ∨ q.ph = 10) : (q.ph = 9 → (pnstep s (edf n) q).2.ph = 10) ∧ (q.ph = 10 → (pnstep s (edf n) q).2.ph = 0) := by
  unfold pnstep
  refine ⟨fun e => by rw [if_pos e], fun e => by rw [if_neg (by rw [e]; decide), if_pos e]⟩
section
variable {rp : List (Option Nat)} {B p cb qb pb pr X lb n M k : Nat} {x : Xr} {gp : List Gp} {w0 w w' : World}
theorem EgAt.dueAt (h : EgAt rp B p cb qb pb pr X lb n M x gp w0 w) : ∃ m A c, m ≤ M ∧ w.cell? ⟨X, 5, none⟩ = some (.slice A m c) ∧ ∀ j, j < m → ∃ gr r, A = some ⟨gr, 0, none⟩ ∧ m ≤ c ∧ x.old[j]? = some r ∧ w.cell? ⟨gr, j * 3 + 2, none⟩ = some (.bool r.due) := by
  obtain ⟨lv, ov, v0, v1, v2, gs, go, h⟩ := h
  obtain ⟨A, c, hov, _⟩ := own_slice (show w.ownsRow B 86 3 ov go.length (goV n go) from h.mem.each 8 _ rfl)
  subst hov
  refine ⟨go.length, A, c, h.om, (h.mem.each 3 _ rfl).cell 5, fun j hj => ?_⟩
  obtain ⟨y, hy⟩ : ∃ y, go[j]? = some y := ⟨_, List.getElem?_eq_getElem hj⟩
  obtain ⟨gr, hgr, hmc, _, a2⟩ := h.mem.oldAt hy
  exact ⟨gr, y.2, hgr, hmc, by rw [h.old]; simp [hy], a2⟩
theorem EgAt.handles (h : EgAt rp B p cb qb pb pr X lb n M x gp w0 w) (hd : ∀ r ∈ x.old, r.due = true) : Calls Try.prog 42 #[.pointer (some ⟨lb, 0, none⟩)] w fun e w' => ∃ A c, e = .returned (.slice A 0 c) ∧ Ch (fun _ => False) w w' := by
  obtain ⟨lv, ov, v0, v1, v2, gs, go, h⟩ := h
  have hl : ∀ j, lim x.old 0 j = [] := fun j => lim_empty hd j
  refine (handles_h lb v0 v1 v2 _ _ _ w (h.mem.each 4 _ rfl) (hs_of_own (show w.ownsRow B 92 1 v0 (lim x.old 0 0).length (hvs (lim x.old 0 0)) from h.mem.each 5 _ rfl)) (hs_of_own (show w.ownsRow B 92 1 v1 (lim x.old 0 1).length (hvs (lim x.old 0 1)) from h.mem.each 6 _ rfl)) (hs_of_own (show w.ownsRow B 92 1 v2 (lim x.old 0 2).length (hvs (lim x.old 0 2)) from h.mem.each 7 _ rfl)) (by rw [hl, hl, hl]; decide)).mono ?_
  rintro e w' ⟨v, rfl, hm, c⟩
  rw [hl, hl, hl] at hm
  obtain ⟨A, cp, hv, _⟩ := own_slice hm
  exact ⟨A, cp, by rw [hv]; rfl, c⟩
end
set_option maxRecDepth 100000 in
set_option maxHeartbeats 4000000 in
theorem settles_walk (n : Int) (a : Option Addr) (nl cl : Nat) (ls : List (List Value)) (w : World) (hn : (Lit.int .i64 n).wf = true) (hx : InRows evGKs w a nl ls) :
    Calls Try.prog 7 #[.int .i64 n, .slice a nl cl] w fun e w' => e = .returned (.bool true) ∧ Below w.heap.size w w' := by
  obtain ⟨xs, hev⟩ := in_evg hx
  have HE := hid hev
  
  
  clear hx hev 
  by_cases h1 : n < 0
  · have d1 : decide (n < 0) = true := decide_eq_true h1
    go_enter Try.func7, Try.ntmps7
    go_wp2_with fail
    go_ret
    exact ⟨rfl, Below.refl _ _⟩
  have d1 : decide (n < 0) = false := decide_eq_false h1
  by_cases h2 : 5 < n
  · have d2 : decide (5 < n) = true := decide_eq_true h2
    go_enter Try.func7, Try.ntmps7
    go_wp2_with fail
    go_ret
    exact ⟨rfl, Below.refl _ _⟩
  have d2 : decide (5 < n) = false := decide_eq_false h2
  by_cases h3 : 200 < nl
  · have d3 : decide (200 < nl) = true := decide_eq_true h3
    have d3' : decide ((200 : Int) < (nl : Int)) = true := decide_eq_true (by omega)
    go_enter Try.func7, Try.ntmps7
    go_wp2_with fail
    go_ret
    exact ⟨rfl, Below.refl _ _⟩
  have d3 : decide (200 < nl) = false := decide_eq_false h3
  have d3' : decide ((200 : Int) < (nl : Int)) = false := decide_eq_false (by omega)
  obtain ⟨m, rfl⟩ := Int.eq_ofNat_of_zero_le (show 0 ≤ n by omega)
  have hm5 : m ≤ 5 := by omega
  go_enter Try.func7, Try.ntmps7
  go_wp2_with fail
  refine (egrun_any m hm5 a nl cl xs w HE.out (by omega)).mono ?_
  rintro e w1 ⟨p, cb, qb, pb, pr, X, lb, rfl, lv, ov, v0, v1, v2, x, gp, gs, go, hR, hG⟩
  have H := hid hR
  have HG := hid hG
  have H0 := hid (show EgAt (gbOf gp) w.heap.size p cb qb pb pr X lb m nl x gp w w1 from ⟨lv, ov, v0, v1, v2, gs, go, hR⟩)
  have hnl : nl ≤ 300 := by omega
  clear hR hG H
  go_wp2_with fail
  go_loopw [6] (fun i wr => ∃ kk : Nat, kk ≤ m ∧ i = .int .i64 kk ∧ ∃ y gq, EgAt (gbOf gp) w.heap.size p cb qb pb pr X lb m (nl + 3 * kk) y gq w wr ∧ GInv m (nl + 3 * kk) y ∧ ((∀ j, kk ≤ j → gq[j]? = gp[j]?) ∧ (∀ j, j < kk → gq[j]? = some none))) (fun i _ => m - (intOf i).toNat)
  case atStart => exact ⟨0, Nat.zero_le _, rfl, _, _, H0.out.le (by omega) (by omega), HG.out.le (by omega), fun _ _ => rfl, fun j hj => by omega⟩
  case round =>
    obtain ⟨k, hk, rfl, y, gq, hA, hG1, hrest⟩ := hrel
    have HA := hid hA
    have HG1 := hid hG1
    have HREST := hid hrest
    clear hA hG1 hrest
    by_cases hkm : k < m
    · have d5 : decide (k < m) = true := decide_eq_true hkm
      have d5' : decide ((k : Int) < (m : Int)) = true := decide_eq_true (by omega)
      obtain ⟨o, ho⟩ : ∃ o, gp[k]? = some o := ⟨_, List.getElem?_eq_getElem (by rw [H0.out.gl]; exact hkm)⟩
      have HP := hid ho
      clear ho
      go_wp2_with fail
      match o, HP with
      | none, HP =>
        go_loopw [7] (fun i2 w2r => i2 = .int .i64 0 ∧ w2r = wr) (fun i2 _ => 0)
        case atStart => exact ⟨rfl, rfl⟩
        case round =>
          obtain ⟨rfl, rfl⟩ := hrel
          have x3 := HA.out.c3
          have pk : wr.cell? ⟨pr, k, none⟩ = some (.pointer none) := (HA.out.pins (gb_at HP.out)).1
          go_wp2_with fail
          clear x3 pk
          obtain ⟨mm, A, ca, hmm, _, hcl0⟩ := HA.out.clr k
          have HCL0 := hid hcl0
          clear hcl0
          go_wp2_with fail
          go_loopw [8] (fun i3 w3r => ∃ j : Nat, j ≤ mm ∧ i3 = .int .i64 j ∧ EgClr (gbOf gp) w.heap.size p cb qb pb pr X lb m (nl + 3 * k) k mm A ca _ _ j w w3r) (fun i3 _ => mm - (intOf i3).toNat)
          case atStart => exact ⟨0, Nat.zero_le _, rfl, HCL0.out⟩
          case round =>
            obtain ⟨j, hj, rfl, hcl⟩ := hrel
            have x5 := hcl.c5
            by_cases hjm : j < mm
            · have d7 : decide (j < mm) = true := decide_eq_true hjm
              have d7' : decide ((j : Int) < (mm : Int)) = true := decide_eq_true (by omega)
              obtain ⟨gr, bb, v, rfl, hmc, a1, zv, zf, hnx⟩ := hcl.at hkm hjm
              have HNX := hid hnx
              clear hnx hcl
              go_wp2_with fail
              go_roundw
              case rel => exact ⟨j + 1, by omega, by go_num, HNX.out⟩
              case measure => simp [intOf]; omega
            · have hjn : j = mm := by omega
              subst hjn
              have d7 : decide (j < j) = false := decide_eq_false (by omega)
              have d7' : decide ((j : Int) < (j : Int)) = false := decide_eq_false (by omega)
              have HCL := hid hcl
              clear hcl
              go_wp2_with fail
              go_roundw
              case rel => exact ⟨k + 1, by omega, by go_num, _, _, (HCL.out.fin (einv_clr HA.out.inv k)).le (by omega) (by omega), (ginv_clr HG1.out k).le (by omega), fun j' hj' => HREST.out.1 j' (by omega), fun j' hj' => if e' : j' = k then (by rw [e']; exact (HREST.out.1 k (Nat.le_refl k)).trans HP.out) else (HREST.out.2 j' (by omega))⟩
              case measure => simp [intOf]; omega
      | some (g, q0), HP =>
        go_loopw [7] (fun i2 w2r => ∃ c : Nat, c ≤ 2 ∧ i2 = .int .i64 c ∧ ∃ y gq q, EgAt (gbOf gp) w.heap.size p cb qb pb pr X lb m (nl + 3 * k + c) y gq w w2r ∧ GInv m (nl + 3 * k + c) y ∧ (gq[k]? = some (some (g, q)) ∧ (∀ j, k + 1 ≤ j → gq[j]? = gp[j]?) ∧ (∀ j, j < k → gq[j]? = some none)) ∧ (q.ph = 9 → c = 0) ∧ (q.ph = 10 → c ≤ 1)) (fun i2 _ => 2 - (intOf i2).toNat)
        case atStart =>
          exact ⟨0, by omega, rfl, _, _, q0, HA.out, HG1.out, ⟨(HREST.out.1 k (Nat.le_refl k)).trans HP.out, fun j hj => HREST.out.1 j (by omega), HREST.out.2⟩, fun _ => rfl, fun _ => by omega⟩
        case round =>
          obtain ⟨c, hc, rfl, y, gq, q, hB, hGB, hQ, hph9, hph10⟩ := hrel
          have HB := hid hB
          have HGB := hid hGB
          have HQ := hid hQ
          have HPQ := hid (hB.pinQ hQ.1)
          clear hB hGB hQ
          have x3 := HB.out.c3
          have x1 := HB.out.c1
          have pk : wr.cell? ⟨pr, k, none⟩ = some (.pointer (some ⟨g, 0, none⟩)) := (HB.out.pins (gb_at HP.out)).1
          by_cases hc2 : c < 2
          · have d6 : decide (c < 2) = true := decide_eq_true hc2
            have d6' : decide ((c : Int) < 2) = true := decide_eq_true (by omega)
            go_wp2_with fail
            refine (HB.out.next HQ.out.1).mono ?_
            rintro e w2 ⟨rfl, rfl⟩
            by_cases hph : q.ph = 0
            · have bph : (q.ph != 0) = false := by rw [bne_eq_false_iff_eq]; exact hph
              have HPH := hid hph
              clear hph hph9 hph10
              go_wp2_with fail
              refine (HB.out.unpin (by omega) HQ.out.1 HPH.out).mono ?_
              rintro e w3 ⟨rfl, h3⟩
              have H3 := hid h3
              clear h3 x3 pk x1
              obtain ⟨mm, A, ca, hmm, _, hcl0⟩ := H3.out.clr k
              have HCL0 := hid hcl0
              clear hcl0
              go_wp2_with fail
              go_loopw [8] (fun i3 w3r => ∃ j : Nat, j ≤ mm ∧ i3 = .int .i64 j ∧ EgClr (gbOf gp) w.heap.size p cb qb pb pr X lb m (nl + 3 * k + c + 1) k mm A ca _ _ j w w3r) (fun i3 _ => mm - (intOf i3).toNat)
              case atStart => exact ⟨0, Nat.zero_le _, rfl, HCL0.out⟩
              case round =>
                obtain ⟨j, hj, rfl, hcl⟩ := hrel
                have x5 := hcl.c5
                by_cases hjm : j < mm
                · have d7 : decide (j < mm) = true := decide_eq_true hjm
                  have d7' : decide ((j : Int) < (mm : Int)) = true := decide_eq_true (by omega)
                  obtain ⟨gr, bb, v, rfl, hmc, a1, zv, zf, hnx⟩ := hcl.at hkm hjm
                  have HNX := hid hnx
                  clear hnx hcl
                  go_wp2_with fail
                  go_roundw
                  case rel => exact ⟨j + 1, by omega, by go_num, HNX.out⟩
                  case measure => simp [intOf]; omega
                · have hjn : j = mm := by omega
                  subst hjn
                  have d7 : decide (j < j) = false := decide_eq_false (by omega)
                  have d7' : decide ((j : Int) < (j : Int)) = false := decide_eq_false (by omega)
                  have HCL := hid hcl
                  clear hcl
                  go_wp2_with fail
                  go_roundw
                  case rel => exact ⟨k + 1, by omega, by go_num, _, _, (HCL.out.fin (einv_clr H3.out.inv k)).le (by omega) (by omega), (show GInv m (nl + 3 * k + c + 1) (xclr k (xunpin0 m k _)) from ginv_unpin HGB.out hkm).le (by omega), fun j' hj' => by rw [List.getElem?_set_ne (by omega)]; exact HQ.out.2.1 j' (by omega), fun j' hj' => if e' : j' = k then (by rw [e']; exact set_at (by rw [HB.out.gl]; exact hkm)) else (by rw [List.getElem?_set_ne (by omega)]; exact HQ.out.2.2 j' (by omega))⟩
                  case measure => simp [intOf]; omega
            · have bph : (q.ph != 0) = true := by rw [bne_iff_ne]; exact hph
              have HPH := hid hph
              have HPP := hid (pn_ph (s := y.s) (n := m) (HPQ.out.2.2.resolve_left hph))
              have H9 := hid hph9
              have HD := hid (HPQ.out.2.2.resolve_left hph)
              clear hph hph9 hph10
              go_wp2_with fail
              refine (HB.out.step (by omega) HQ.out.1 HPH.out).mono ?_
              rintro e w3 ⟨rfl, h3⟩
              have H3 := hid h3
              clear h3 x3 x1 pk
              go_wp2_with fail
              go_roundw
              case rel =>
                refine ⟨c + 1, by omega, by go_num, _, _, _, H3.out, ginv_pin HGB.out (by omega) hkm, ⟨set_at (by rw [HB.out.gl]; exact hkm), fun j hj => by rw [List.getElem?_set_ne (by omega)]; exact HQ.out.2.1 j hj, fun j hj => by rw [List.getElem?_set_ne (by omega)]; exact HQ.out.2.2 j hj⟩, fun e9 => ?_, fun e10 => ?_⟩
                · rcases HD.out with e | e
                  · rw [HPP.out.1 e] at e9; cases e9
                  · rw [HPP.out.2 e] at e9; cases e9
                · rcases HD.out with e | e
                  · have := H9.out e; omega
                  · rw [HPP.out.2 e] at e10; cases e10
              case measure => simp [intOf]; omega
          · obtain rfl : c = 2 := by omega
            have HPH := hid (show q.ph = 0 by
              rcases HPQ.out.2.2 with e | e | e
              · exact e
              · have := hph9 e; omega
              · have := hph10 e; omega)
            clear hph9 hph10
            go_wp2_with fail
            refine (HB.out.unpin (by omega) HQ.out.1 HPH.out).mono ?_
            rintro e w3 ⟨rfl, h3⟩
            have H3 := hid h3
            clear h3 x3 pk x1
            obtain ⟨mm, A, ca, hmm, _, hcl0⟩ := H3.out.clr k
            have HCL0 := hid hcl0
            clear hcl0
            go_wp2_with fail
            go_loopw [8] (fun i3 w3r => ∃ j : Nat, j ≤ mm ∧ i3 = .int .i64 j ∧ EgClr (gbOf gp) w.heap.size p cb qb pb pr X lb m (nl + 3 * k + 2 + 1) k mm A ca _ _ j w w3r) (fun i3 _ => mm - (intOf i3).toNat)
            case atStart => exact ⟨0, Nat.zero_le _, rfl, HCL0.out⟩
            case round =>
              obtain ⟨j, hj, rfl, hcl⟩ := hrel
              have x5 := hcl.c5
              by_cases hjm : j < mm
              · have d7 : decide (j < mm) = true := decide_eq_true hjm
                have d7' : decide ((j : Int) < (mm : Int)) = true := decide_eq_true (by omega)
                obtain ⟨gr, bb, v, rfl, hmc, a1, zv, zf, hnx⟩ := hcl.at hkm hjm
                have HNX := hid hnx
                clear hnx hcl
                go_wp2_with fail
                go_roundw
                case rel => exact ⟨j + 1, by omega, by go_num, HNX.out⟩
                case measure => simp [intOf]; omega
              · have hjn : j = mm := by omega
                subst hjn
                have d7 : decide (j < j) = false := decide_eq_false (by omega)
                have d7' : decide ((j : Int) < (j : Int)) = false := decide_eq_false (by omega)
                have HCL := hid hcl
                clear hcl
                go_wp2_with fail
                go_roundw
                case rel => exact ⟨k + 1, by omega, by go_num, _, _, (HCL.out.fin (einv_clr H3.out.inv k)).le (by omega) (by omega), (show GInv m (nl + 3 * k + 2 + 1) (xclr k (xunpin0 m k _)) from ginv_unpin HGB.out hkm).le (by omega), fun j' hj' => by rw [List.getElem?_set_ne (by omega)]; exact HQ.out.2.1 j' (by omega), fun j' hj' => if e' : j' = k then (by rw [e']; exact set_at (by rw [HB.out.gl]; exact hkm)) else (by rw [List.getElem?_set_ne (by omega)]; exact HQ.out.2.2 j' (by omega))⟩
                case measure => simp [intOf]; omega
    · obtain rfl : k = m := by omega
      have d5 : decide (k < k) = false := decide_eq_false (by omega)
      have d5' : decide ((k : Int) < (k : Int)) = false := decide_eq_false (by omega)
      have HCALM := hid (show Calm k y from fun j hj => by rw [HA.out.pin_at (HREST.out.2 j hj)]; rfl)
      obtain ⟨e0, he0⟩ : ∃ e0, e0 = y.now := ⟨_, rfl⟩
      have HOLD0 := hid (show OldBy e0 y from fun r hr => by rw [he0]; exact (HA.out.inv.ol r hr).2.2.1)
      have HE0 := hid he0
      clear he0
      go_wp2_with fail
      go_loopw [9] (fun i3 wr => ∃ c : Nat, c ≤ k + 1 ∧ i3 = .int .i64 c ∧ ∃ y gq, EgAt (gbOf gp) w.heap.size p cb qb pb pr X lb k (600 + c) y gq w wr ∧ Far c y ∧ (GInv k (600 + c) y ∧ Calm k y ∧ OldBy e0 y ∧ e0 ≤ y.now)) (fun i3 _ => (k + 1) - (intOf i3).toNat)
      case atStart => exact ⟨0, Nat.zero_le _, rfl, _, _, HA.out.le (by omega) (by omega), fun q hq => Nat.zero_le _, ⟨HG1.out.le (by omega), HCALM.out, HOLD0.out, Int.le_of_eq HE0.out⟩⟩
      case round =>
        obtain ⟨c, hc, rfl, y, gq, hA, hfar, hx4⟩ := hrel
        have HF := hid hfar
        have HA := hid hA
        have HX4 := hid hx4
        clear hfar hA hx4
        by_cases hlt : c < k + 1
        · have d5 : decide (c < k + 1) = true := decide_eq_true hlt
          have d5' : decide ((c : Int) < (k : Int) + 1) = true := decide_eq_true (by omega)
          by_cases hs : y.sc = none
          · have x4 := HA.out.c4n hs
            have HS := hid hs
            clear hs
            have HS4 := hid HA.out
            have HSC := hid HS.out
            have x4 := HS4.out.c4n HSC.out
            go_wp2_with fail
            go_loopw [10] (fun i5 wr => ∃ c5 : Nat, c5 ≤ 3 ∧ i5 = .int .i64 c5 ∧ ∃ y gq, EgAt (gbOf gp) w.heap.size p cb qb pb pr X lb k (800 + 10 * c5) y gq w wr ∧ GInv k (800 + 10 * c5) y ∧ y.sc = none ∧ Calm k y ∧ OldBy e0 y ∧ e0 + c5 ≤ y.now) (fun i5 _ => 3 - (intOf i5).toNat)
            case atStart => exact ⟨0, by omega, rfl, _, _, HS4.out.le (by omega) (by omega), HX4.out.1.le (by omega), HSC.out, HX4.out.2.1, HX4.out.2.2.1, by have := HX4.out.2.2.2; omega⟩
            case round =>
              obtain ⟨c5, hc5, rfl, y, gq, hA5, hG5, hsc5, hcalm5, hold5, hnow5⟩ := hrel
              have H5 := hid hA5
              have HG5 := hid hG5
              have HSC5 := hid hsc5
              have HCA5 := hid hcalm5
              have HO := hid hold5
              clear hA5 hG5 hsc5 hcalm5 hold5
              by_cases hlt5 : c5 < 3
              · have d8 : decide (c5 < 3) = true := decide_eq_true hlt5
                have d8' : decide ((c5 : Int) < 3) = true := decide_eq_true (by omega)
                have x1 := H5.out.c1
                go_wp2_with fail
                refine H5.out.now.mono ?_
                rintro e w2 ⟨rfl, n2, rfl⟩
                have H6 := hid (H5.out.drewN n2)
                obtain ⟨was, hwas⟩ : ∃ z, z = y.now := ⟨_, rfl⟩
                have hwb : 0 ≤ was ∧ was ≤ 400000 := by have := H5.out.inv.nw; omega
                have HWAS := hid hwas
                rw [← hwas] at hnow5 ⊢
                clear hwas x1
                go_wp2_with fail
                go_loopw [12] (fun i6 wr => ∃ c6 : Nat, c6 ≤ k + 1 ∧ i6 = .int .i64 c6 ∧ ∃ y gq, EgAt (gbOf gp) w.heap.size p cb qb pb pr X lb k (800 + 10 * c5 + c6) y gq w wr ∧ GInv k (800 + 10 * c5 + c6) y ∧ Calm k y ∧ OldBy e0 y ∧ ((c6 ≤ k ∧ AtN k c6 y ∧ y.now = was) ∨ (c6 = k + 1 ∧ y.sc = none ∧ y.now = was + 1))) (fun i6 _ => (k + 1) - (intOf i6).toNat)
                case atStart => exact ⟨0, Nat.zero_le _, rfl, _, _, H6.out, HG5.out, HCA5.out, HO.out, .inl ⟨Nat.zero_le _, atn_none HSC5.out, HWAS.out.symm⟩⟩
                case round =>
                  obtain ⟨c6, hc6, rfl, y6, gq6, hA6, hG6, hcalm6, hold6, hway⟩ := hrel
                  have H7 := hid hA6
                  have HG7 := hid hG6
                  have HCA7 := hid hcalm6
                  have HO7 := hid hold6
                  have HW7 := hid hway
                  clear hA6 hG6 hcalm6 hold6 hway
                  by_cases hlt6 : c6 < k + 1
                  · have d9 : decide (c6 < k + 1) = true := decide_eq_true hlt6
                    have d9' : decide ((c6 : Int) < (k : Int) + 1) = true := decide_eq_true (by omega)
                    go_wp2_with fail
                    refine (H7.out.scan (by omega)).mono ?_
                    rintro e w3 ⟨rfl, h3⟩
                    have H8 := hid h3
                    clear h3
                    go_wp2_with fail
                    go_roundw
                    case rel =>
                      refine ⟨c6 + 1, by omega, by go_num, _, _, H8.out, ginv_scan HG7.out (show 800 + 10 * c5 + c6 < 1000000 by omega), calm_scan H7.out.inv (by omega) HCA7.out, oldby_scan H7.out.inv (by omega) HO7.out, ?_⟩
                      rcases HW7.out with ⟨w1', w2', w3'⟩ | ⟨w1', _, _⟩
                      · by_cases hcm : c6 < k
                        · have t := calm_step H7.out.inv (by omega) HCA7.out w2' hcm
                          exact .inl ⟨by omega, t.1, t.2.trans w3'⟩
                        · obtain rfl : c6 = k := by omega
                          have t := calm_bump H7.out.inv (by omega) HCA7.out w2'
                          exact .inr ⟨rfl, t.1, by rw [t.2, w3']⟩
                      · omega
                    case measure => simp [intOf]; omega
                  · obtain rfl : c6 = k + 1 := by omega
                    have d9 : decide (k + 1 < k + 1) = false := decide_eq_false (by omega)
                    have d9' : decide ((k : Int) + 1 < (k : Int) + 1) = false := decide_eq_false (by omega)
                    have hw8 : y6.sc = none ∧ y6.now = was + 1 := by
                      rcases HW7.out with ⟨w1', _, _⟩ | ⟨_, w2', w3'⟩
                      · omega
                      · exact ⟨w2', w3'⟩
                    have HW8 := hid hw8
                    clear hw8
                    rw [show ((k + 1 : Nat) : Int) = (k : Int) + 1 by push_cast; rfl]
                    clear hlt6
                    have x4 := H7.out.c4n HW8.out.1
                    have x1 := H7.out.c1
                    go_wp2_with fail
                    refine H7.out.now.mono ?_
                    rintro e w3 ⟨rfl, n3, rfl⟩
                    rw [HW8.out.2]
                    have H9 := hid (H7.out.drewN n3)
                    clear x1 x4
                    go_wp2_with fail
                    go_roundw
                    case rel => exact ⟨c5 + 1, by omega, by go_num, _, _, H9.out.le (by omega) (by omega), HG7.out.le (by omega), HW8.out.1, HCA7.out, HO7.out, by rw [HW8.out.2]; push_cast; omega⟩
                    case measure => simp [intOf]; omega
              · obtain rfl : c5 = 3 := by omega
                have d8 : decide ((3 : Nat) < 3) = false := by decide
                have d8' : decide (((3 : Nat) : Int) < 3) = false := by decide
                have hn5 : e0 + 2 ≤ y.now := by omega
                clear hnow5
                have HDUE := hid (all_due HG5.out.toEInv HO.out (by omega))
                obtain ⟨mm, A, ca, hmm, y5, hdat⟩ := H5.out.dueAt
                have HDAT := hid hdat
                clear hdat
                go_wp2_with fail
                go_loopw [13] (fun i7 w7r => ∃ j : Nat, j ≤ mm ∧ i7 = .int .i64 j ∧ w7r = wr) (fun i7 _ => mm - (intOf i7).toNat)
                case atStart => exact ⟨0, Nat.zero_le _, rfl, rfl⟩
                case round =>
                  obtain ⟨j, hj, rfl, rfl⟩ := hrel
                  by_cases hjm : j < mm
                  · have d7 : decide (j < mm) = true := decide_eq_true hjm
                    have d7' : decide ((j : Int) < (mm : Int)) = true := decide_eq_true (by omega)
                    obtain ⟨gr, r, rfl, hmc, hr, a2⟩ := HDAT.out j hjm
                    rw [HDUE.out r (List.mem_of_getElem? hr)] at a2
                    clear hr
                    go_wp2_with fail
                    go_roundw
                    case rel => exact ⟨j + 1, by omega, by go_num, by first | rfl | trivial⟩
                    case measure => simp [intOf]; omega
                  · have hjn : j = mm := by omega
                    subst hjn
                    have d7 : decide (j < j) = false := decide_eq_false (by omega)
                    have d7' : decide ((j : Int) < (j : Int)) = false := decide_eq_false (by omega)
                    have x6 := H5.out.c6
                    rw [HG5.out.fn] at x6
                    have x2 := H5.out.c2
                    go_wp2_with fail
                    refine (H5.out.handles HDUE.out).mono ?_
                    rintro e w8 ⟨A8, c8, rfl, hc8⟩
                    have HK := hid (H5.out.keep hc8)
                    clear hc8
                    go_wp2_with fail
                    go_ret
                    exact ⟨rfl, HK.out.bel⟩
          · obtain ⟨g4, x4⟩ := HA.out.c4s hs
            have HS := hid hs
            clear hs
            go_wp2_with fail
            refine (HA.out.scan (by omega)).mono ?_
            rintro e w2 ⟨rfl, h2⟩
            have H2 := hid h2
            clear h2 x4
            go_wp2_with fail
            go_roundw
            case rel => exact ⟨c + 1, by omega, by go_num, _, _, H2.out, far_scan HA.out.inv (by omega) HF.out HS.out, ⟨ginv_scan HX4.out.1 (show 600 + c < 1000000 by omega), calm_scan HA.out.inv (by omega) HX4.out.2.1, oldby_scan HA.out.inv (by omega) HX4.out.2.2.1, Int.le_trans HX4.out.2.2.2 (xscan_now_le HA.out.inv (by omega))⟩⟩
            case measure => simp [intOf]; omega
        · obtain rfl : c = k + 1 := by omega
          have d5 : decide (k + 1 < k + 1) = false := decide_eq_false (by omega)
          have d5' : decide ((k : Int) + 1 < (k : Int) + 1) = false := decide_eq_false (by omega)
          have HS := hid (far_end HA.out.inv HF.out)
          rw [show ((k + 1 : Nat) : Int) = (k : Int) + 1 by push_cast; rfl]
          clear hlt
          have HS4 := hid HA.out
          have HSC := hid HS.out
          have x4 := HS4.out.c4n HSC.out
          go_wp2_with fail
          go_loopw [10] (fun i5 wr => ∃ c5 : Nat, c5 ≤ 3 ∧ i5 = .int .i64 c5 ∧ ∃ y gq, EgAt (gbOf gp) w.heap.size p cb qb pb pr X lb k (800 + 10 * c5) y gq w wr ∧ GInv k (800 + 10 * c5) y ∧ y.sc = none ∧ Calm k y ∧ OldBy e0 y ∧ e0 + c5 ≤ y.now) (fun i5 _ => 3 - (intOf i5).toNat)
          case atStart => exact ⟨0, by omega, rfl, _, _, HS4.out.le (by omega) (by omega), HX4.out.1.le (by omega), HSC.out, HX4.out.2.1, HX4.out.2.2.1, by have := HX4.out.2.2.2; omega⟩
          case round =>
            obtain ⟨c5, hc5, rfl, y, gq, hA5, hG5, hsc5, hcalm5, hold5, hnow5⟩ := hrel
            have H5 := hid hA5
            have HG5 := hid hG5
            have HSC5 := hid hsc5
            have HCA5 := hid hcalm5
            have HO := hid hold5
            clear hA5 hG5 hsc5 hcalm5 hold5
            by_cases hlt5 : c5 < 3
            · have d8 : decide (c5 < 3) = true := decide_eq_true hlt5
              have d8' : decide ((c5 : Int) < 3) = true := decide_eq_true (by omega)
              have x1 := H5.out.c1
              go_wp2_with fail
              refine H5.out.now.mono ?_
              rintro e w2 ⟨rfl, n2, rfl⟩
              have H6 := hid (H5.out.drewN n2)
              obtain ⟨was, hwas⟩ : ∃ z, z = y.now := ⟨_, rfl⟩
              have hwb : 0 ≤ was ∧ was ≤ 400000 := by have := H5.out.inv.nw; omega
              have HWAS := hid hwas
              rw [← hwas] at hnow5 ⊢
              clear hwas x1
              go_wp2_with fail
              go_loopw [12] (fun i6 wr => ∃ c6 : Nat, c6 ≤ k + 1 ∧ i6 = .int .i64 c6 ∧ ∃ y gq, EgAt (gbOf gp) w.heap.size p cb qb pb pr X lb k (800 + 10 * c5 + c6) y gq w wr ∧ GInv k (800 + 10 * c5 + c6) y ∧ Calm k y ∧ OldBy e0 y ∧ ((c6 ≤ k ∧ AtN k c6 y ∧ y.now = was) ∨ (c6 = k + 1 ∧ y.sc = none ∧ y.now = was + 1))) (fun i6 _ => (k + 1) - (intOf i6).toNat)
              case atStart => exact ⟨0, Nat.zero_le _, rfl, _, _, H6.out, HG5.out, HCA5.out, HO.out, .inl ⟨Nat.zero_le _, atn_none HSC5.out, HWAS.out.symm⟩⟩
              case round =>
                obtain ⟨c6, hc6, rfl, y6, gq6, hA6, hG6, hcalm6, hold6, hway⟩ := hrel
                have H7 := hid hA6
                have HG7 := hid hG6
                have HCA7 := hid hcalm6
                have HO7 := hid hold6
                have HW7 := hid hway
                clear hA6 hG6 hcalm6 hold6 hway
                by_cases hlt6 : c6 < k + 1
                · have d9 : decide (c6 < k + 1) = true := decide_eq_true hlt6
                  have d9' : decide ((c6 : Int) < (k : Int) + 1) = true := decide_eq_true (by omega)
                  go_wp2_with fail
                  refine (H7.out.scan (by omega)).mono ?_
                  rintro e w3 ⟨rfl, h3⟩
                  have H8 := hid h3
                  clear h3
                  go_wp2_with fail
                  go_roundw
                  case rel =>
                    refine ⟨c6 + 1, by omega, by go_num, _, _, H8.out, ginv_scan HG7.out (show 800 + 10 * c5 + c6 < 1000000 by omega), calm_scan H7.out.inv (by omega) HCA7.out, oldby_scan H7.out.inv (by omega) HO7.out, ?_⟩
                    rcases HW7.out with ⟨w1', w2', w3'⟩ | ⟨w1', _, _⟩
                    · by_cases hcm : c6 < k
                      · have t := calm_step H7.out.inv (by omega) HCA7.out w2' hcm
                        exact .inl ⟨by omega, t.1, t.2.trans w3'⟩
                      · obtain rfl : c6 = k := by omega
                        have t := calm_bump H7.out.inv (by omega) HCA7.out w2'
                        exact .inr ⟨rfl, t.1, by rw [t.2, w3']⟩
                    · omega
                  case measure => simp [intOf]; omega
                · obtain rfl : c6 = k + 1 := by omega
                  have d9 : decide (k + 1 < k + 1) = false := decide_eq_false (by omega)
                  have d9' : decide ((k : Int) + 1 < (k : Int) + 1) = false := decide_eq_false (by omega)
                  have hw8 : y6.sc = none ∧ y6.now = was + 1 := by
                    rcases HW7.out with ⟨w1', _, _⟩ | ⟨_, w2', w3'⟩
                    · omega
                    · exact ⟨w2', w3'⟩
                  have HW8 := hid hw8
                  clear hw8
                  rw [show ((k + 1 : Nat) : Int) = (k : Int) + 1 by push_cast; rfl]
                  clear hlt6
                  have x4 := H7.out.c4n HW8.out.1
                  have x1 := H7.out.c1
                  go_wp2_with fail
                  refine H7.out.now.mono ?_
                  rintro e w3 ⟨rfl, n3, rfl⟩
                  rw [HW8.out.2]
                  have H9 := hid (H7.out.drewN n3)
                  clear x1 x4
                  go_wp2_with fail
                  go_roundw
                  case rel => exact ⟨c5 + 1, by omega, by go_num, _, _, H9.out.le (by omega) (by omega), HG7.out.le (by omega), HW8.out.1, HCA7.out, HO7.out, by rw [HW8.out.2]; push_cast; omega⟩
                  case measure => simp [intOf]; omega
            · obtain rfl : c5 = 3 := by omega
              have d8 : decide ((3 : Nat) < 3) = false := by decide
              have d8' : decide (((3 : Nat) : Int) < 3) = false := by decide
              have hn5 : e0 + 2 ≤ y.now := by omega
              clear hnow5
              have HDUE := hid (all_due HG5.out.toEInv HO.out (by omega))
              obtain ⟨mm, A, ca, hmm, y5, hdat⟩ := H5.out.dueAt
              have HDAT := hid hdat
              clear hdat
              go_wp2_with fail
              go_loopw [13] (fun i7 w7r => ∃ j : Nat, j ≤ mm ∧ i7 = .int .i64 j ∧ w7r = wr) (fun i7 _ => mm - (intOf i7).toNat)
              case atStart => exact ⟨0, Nat.zero_le _, rfl, rfl⟩
              case round =>
                obtain ⟨j, hj, rfl, rfl⟩ := hrel
                by_cases hjm : j < mm
                · have d7 : decide (j < mm) = true := decide_eq_true hjm
                  have d7' : decide ((j : Int) < (mm : Int)) = true := decide_eq_true (by omega)
                  obtain ⟨gr, r, rfl, hmc, hr, a2⟩ := HDAT.out j hjm
                  rw [HDUE.out r (List.mem_of_getElem? hr)] at a2
                  clear hr
                  go_wp2_with fail
                  go_roundw
                  case rel => exact ⟨j + 1, by omega, by go_num, by first | rfl | trivial⟩
                  case measure => simp [intOf]; omega
                · have hjn : j = mm := by omega
                  subst hjn
                  have d7 : decide (j < j) = false := decide_eq_false (by omega)
                  have d7' : decide ((j : Int) < (j : Int)) = false := decide_eq_false (by omega)
                  have x6 := H5.out.c6
                  rw [HG5.out.fn] at x6
                  have x2 := H5.out.c2
                  go_wp2_with fail
                  refine (H5.out.handles HDUE.out).mono ?_
                  rintro e w8 ⟨A8, c8, rfl, hc8⟩
                  have HK := hid (H5.out.keep hc8)
                  clear hc8
                  go_wp2_with fail
                  go_ret
                  exact ⟨rfl, HK.out.bel⟩
end Go.Proofs.Ytokcodeeaneeaaa
