/- EpochConstant: the walk. -/
import Derived.Test.YtokcodeeaneeaaaEgRc
import Derived.Test.YtokcodeeaneeaaaEgA
namespace Go.Proofs.Ytokcodeeaneeaaa
open Go.RowKit
set_option linter.unusedVariables false
set_option linter.unusedSimpArgs false
set_option linter.unusedSectionVars false

theorem pn0_step (s : BS) (n k : Nat) : (pnstep s (edf n) (pn0 k)).2 = ⟨k, k, lk s.vs 0, 10⟩ := rfl
theorem pn10_step (s : BS) (n : Nat) (t : Int) (sl : Nat) (v : Int) : (pnstep s (edf n) ⟨t, sl, v, 10⟩).2 = ⟨t, sl, v, 0⟩ := by
  unfold pnstep
  rw [if_neg (show ¬ ((10 : Int) = 9) by decide), if_pos rfl]
theorem set_at {α : Type} {l : List α} {k : Nat} {a : α} (h : k < l.length) : (l.set k a)[k]? = some a := by
  rw [List.getElem?_set, if_pos rfl, if_pos h]
set_option maxRecDepth 100000 in
set_option maxHeartbeats 4000000 in
theorem constant_walk (n : Int) (a : Option Addr) (nl cl : Nat) (ls : List (List Value)) (w : World) (hn : (Lit.int .i64 n).wf = true) (hx : InRows evGKs w a nl ls) :
    Calls Try.prog 8 #[.int .i64 n, .slice a nl cl] w fun e w' => e = .returned (.bool true) ∧ Below w.heap.size w w' := by
  obtain ⟨xs, hev⟩ := in_evg hx
  have HE := hid hev
  
  
  clear hx hev 
  by_cases h1 : n < 0
  · have d1 : decide (n < 0) = true := decide_eq_true h1
    go_enter Try.func8, Try.ntmps8
    go_wp2_with fail
    go_ret
    exact ⟨rfl, Below.refl _ _⟩
  have d1 : decide (n < 0) = false := decide_eq_false h1
  by_cases h2 : 5 < n
  · have d2 : decide (5 < n) = true := decide_eq_true h2
    go_enter Try.func8, Try.ntmps8
    go_wp2_with fail
    go_ret
    exact ⟨rfl, Below.refl _ _⟩
  have d2 : decide (5 < n) = false := decide_eq_false h2
  by_cases h3 : 200 < nl
  · have d3 : decide (200 < nl) = true := decide_eq_true h3
    have d3' : decide ((200 : Int) < (nl : Int)) = true := decide_eq_true (by omega)
    go_enter Try.func8, Try.ntmps8
    go_wp2_with fail
    go_ret
    exact ⟨rfl, Below.refl _ _⟩
  have d3 : decide (200 < nl) = false := decide_eq_false h3
  have d3' : decide ((200 : Int) < (nl : Int)) = false := decide_eq_false (by omega)
  obtain ⟨m, rfl⟩ := Int.eq_ofNat_of_zero_le (show 0 ≤ n by omega)
  have hm5 : m ≤ 5 := by omega
  go_enter Try.func8, Try.ntmps8
  go_wp2_with fail
  refine (egrun_any m hm5 a nl cl xs w HE.out (by omega)).mono ?_
  rintro e w1 ⟨p, cb, qb, pb, pr, X, lb, rfl, lv, ov, v0, v1, v2, x, gp, gs, go, hR, hG⟩
  have H := hid hR
  have HG := hid hG
  have H0 := hid (show EgAt (gbOf gp) w.heap.size p cb qb pb pr X lb m nl x gp w w1 from ⟨lv, ov, v0, v1, v2, gs, go, hR⟩)
  have hnl : nl ≤ 300 := by omega
  clear hR hG H HG
  go_wp2_with fail
  go_loopw [6] (fun i wr => ∃ k : Nat, k ≤ m ∧ i = .int .i64 k ∧ ∃ y gq, EgAt (gbOf gp) w.heap.size p cb qb pb pr X lb m (nl + 3 * k) y gq w wr ∧ ∀ j, k ≤ j → gq[j]? = gp[j]?) (fun i _ => m - (intOf i).toNat)
  case atStart => exact ⟨0, Nat.zero_le _, rfl, _, _, H0.out.le (by omega) (by omega), fun _ _ => rfl⟩
  case round =>
    obtain ⟨k, hk, rfl, y, gq, hA, hrest⟩ := hrel
    have HA := hid hA
    have HREST := hid hrest
    clear hA hrest
    by_cases hkm : k < m
    · have d5 : decide (k < m) = true := decide_eq_true hkm
      have d5' : decide ((k : Int) < (m : Int)) = true := decide_eq_true (by omega)
      obtain ⟨o, ho⟩ : ∃ o, gp[k]? = some o := ⟨_, List.getElem?_eq_getElem (by rw [H0.out.gl]; exact hkm)⟩
      have x3 := HA.out.c3
      have pk := (HA.out.pins (gb_at ho)).1
      have hgl := HA.out.gl
      have HP := hid ho
      clear ho
      match o, HP with
      | some (g0, q0), HP =>
        replace pk : wr.cell? ⟨pr, k, none⟩ = some (.pointer (some ⟨g0, 0, none⟩)) := pk
        go_wp2_with fail
        go_roundw
        case rel => exact ⟨k + 1, by omega, by go_num, _, _, HA.out.le (by omega) (by omega), fun j hj => HREST.out j (by omega)⟩
        case measure => simp [intOf]; omega
      | none, HP =>
        replace pk : wr.cell? ⟨pr, k, none⟩ = some (.pointer none) := pk
        have x1 := HA.out.c1
        go_wp2_with fail
        refine (HA.out.pin hkm ((HREST.out k (Nat.le_refl k)).trans HP.out)).mono ?_
        rintro e w2 ⟨g, rfl, h2⟩
        have H2 := hid h2
        clear h2 x1 x3 pk
        go_wp2_with fail
        refine (H2.out.step (by omega) (k := k) (g := g) (q := pn0 k) (set_at (by omega)) (by show ¬ ((9 : Int) = 0); decide)).mono ?_
        rintro e w3 ⟨rfl, h3⟩
        have H3 := hid h3
        clear h3
        rw [pn0_step, show (pn0 k).ph = 9 from rfl, show ((10 : Int) == 0) = false from rfl]
        go_wp2_with fail
        refine (H3.out.scan (by omega)).mono ?_
        rintro e w4 ⟨rfl, h4⟩
        rw [pn0_step] at h4
        have H4 := hid h4
        clear h4
        go_wp2_with fail
        refine (H4.out.step (by omega) (k := k) (g := g) (q := ⟨k, k, _, 10⟩) (set_at (by rw [List.length_set]; omega)) (by show ¬ ((10 : Int) = 0); decide)).mono ?_
        rintro e w5 ⟨rfl, h5⟩
        rw [pn10_step] at h5
        have H5 := hid h5
        clear h5
        rw [pn10_step, show ((0 : Int) == 0) = true from rfl]
        go_wp2_with fail
        refine (H5.out.next (k := k) (g := g) (q := ⟨k, k, _, 0⟩) (set_at (by rw [List.length_set, List.length_set]; omega))).mono ?_
        rintro e w6 ⟨rfl, rfl⟩
        go_wp2_with fail
        go_roundw
        case rel => exact ⟨k + 1, by omega, by go_num, _, _, H5.out.le (by omega) (by omega), fun j hj => by rw [List.getElem?_set_ne (by omega), List.getElem?_set_ne (by omega), List.getElem?_set_ne (by omega)]; exact HREST.out j (by omega)⟩
        case measure => simp [intOf]; omega
    · obtain rfl : k = m := by omega
      have d5 : decide (k < k) = false := decide_eq_false (by omega)
      have d5' : decide ((k : Int) < (k : Int)) = false := decide_eq_false (by omega)
      go_wp2_with fail
      go_loopw [13] (fun i3 wr => ∃ c : Nat, c ≤ k + 1 ∧ i3 = .int .i64 c ∧ ∃ y gq, EgAt (gbOf gp) w.heap.size p cb qb pb pr X lb k (600 + c) y gq w wr ∧ Far c y) (fun i3 _ => (k + 1) - (intOf i3).toNat)
      case atStart => exact ⟨0, Nat.zero_le _, rfl, _, _, HA.out.le (by omega) (by omega), fun q hq => Nat.zero_le _⟩
      case round =>
        obtain ⟨c, hc, rfl, y, gq, hA, hfar⟩ := hrel
        have HF := hid hfar
        have HA := hid hA
        clear hfar hA
        by_cases hlt : c < k + 1
        · have d5 : decide (c < k + 1) = true := decide_eq_true hlt
          have d5' : decide ((c : Int) < (k : Int) + 1) = true := decide_eq_true (by omega)
          by_cases hs : y.sc = none
          · have x4 := HA.out.c4n hs
            have HS := hid hs
            clear hs
            have x4 := HA.out.c4n HS.out
            go_wp2_with fail
            clear x4
            go_loopw [14] (fun i3 wr => ∃ c : Nat, c ≤ k + 1 ∧ i3 = .int .i64 c ∧ ∃ y gq, EgAt (gbOf gp) w.heap.size p cb qb pb pr X lb k (700 + c) y gq w wr ∧ ((c = 0 ∧ y.sc = none) ∨ (y.sc ≠ none ∧ Far c y))) (fun i3 _ => (k + 1) - (intOf i3).toNat)
            case atStart => exact ⟨0, Nat.zero_le _, rfl, _, _, HA.out.le (by omega) (by omega), .inl ⟨rfl, HS.out⟩⟩
            case round =>
              obtain ⟨c, hc, rfl, y, gq, hA, hfar⟩ := hrel
              have HF := hid hfar
              clear hfar
              by_cases hlt : c < k + 1
              · have d5 : decide (c < k + 1) = true := decide_eq_true hlt
                have d5' : decide ((c : Int) < (k : Int) + 1) = true := decide_eq_true (by omega)
                have HA := hid hA
                clear hA
                go_wp2_with fail
                refine (HA.out.scan (by omega)).mono ?_
                rintro e w2 ⟨rfl, h2⟩
                have H2 := hid h2
                clear h2
                by_cases hs2 : (xscan k y).sc = none
                · have x4 := H2.out.c4n hs2
                  clear hs2
                  go_wp2_with fail
                  go_ret
                  exact ⟨rfl, H2.out.bel⟩
                · obtain ⟨g4, x4⟩ := H2.out.c4s hs2
                  have HS2 := hid hs2
                  clear hs2
                  go_wp2_with fail
                  go_roundw
                  case rel =>
                    refine ⟨c + 1, by omega, by go_num, _, _, H2.out, .inr ⟨HS2.out, ?_⟩⟩
                    rcases HF.out with ⟨e0, _⟩ | ⟨hn, hf⟩
                    · subst e0; exact far_first HA.out.inv (by omega)
                    · exact far_scan HA.out.inv (by omega) hf hn
                  case measure => simp [intOf]; omega
              · obtain rfl : c = k + 1 := by omega
                exfalso
                rcases HF.out with ⟨e0, _⟩ | ⟨hn, hf⟩
                · omega
                · exact hn (far_end hA.inv hf)
          · obtain ⟨g4, x4⟩ := HA.out.c4s hs
            have HS := hid hs
            clear hs
            go_wp2_with fail
            refine (HA.out.scan (by omega)).mono ?_
            rintro e w2 ⟨rfl, h2⟩
            have H2 := hid h2
            clear h2 x4
            go_wp2_with fail
            go_roundw
            case rel => exact ⟨c + 1, by omega, by go_num, _, _, H2.out, far_scan HA.out.inv (by omega) HF.out HS.out⟩
            case measure => simp [intOf]; omega
        · obtain rfl : c = k + 1 := by omega
          have d5 : decide (k + 1 < k + 1) = false := decide_eq_false (by omega)
          have d5' : decide ((k : Int) + 1 < (k : Int) + 1) = false := decide_eq_false (by omega)
          have HS := hid (far_end HA.out.inv HF.out)
          rw [show ((k + 1 : Nat) : Int) = (k : Int) + 1 by push_cast; rfl]
          clear hlt
          have x4 := HA.out.c4n HS.out
          go_wp2_with fail
          clear x4
          go_loopw [14] (fun i3 wr => ∃ c : Nat, c ≤ k + 1 ∧ i3 = .int .i64 c ∧ ∃ y gq, EgAt (gbOf gp) w.heap.size p cb qb pb pr X lb k (700 + c) y gq w wr ∧ ((c = 0 ∧ y.sc = none) ∨ (y.sc ≠ none ∧ Far c y))) (fun i3 _ => (k + 1) - (intOf i3).toNat)
          case atStart => exact ⟨0, Nat.zero_le _, rfl, _, _, HA.out.le (by omega) (by omega), .inl ⟨rfl, HS.out⟩⟩
          case round =>
            obtain ⟨c, hc, rfl, y, gq, hA, hfar⟩ := hrel
            have HF := hid hfar
            clear hfar
            by_cases hlt : c < k + 1
            · have d5 : decide (c < k + 1) = true := decide_eq_true hlt
              have d5' : decide ((c : Int) < (k : Int) + 1) = true := decide_eq_true (by omega)
              have HA := hid hA
              clear hA
              go_wp2_with fail
              refine (HA.out.scan (by omega)).mono ?_
              rintro e w2 ⟨rfl, h2⟩
              have H2 := hid h2
              clear h2
              by_cases hs2 : (xscan k y).sc = none
              · have x4 := H2.out.c4n hs2
                clear hs2
                go_wp2_with fail
                go_ret
                exact ⟨rfl, H2.out.bel⟩
              · obtain ⟨g4, x4⟩ := H2.out.c4s hs2
                have HS2 := hid hs2
                clear hs2
                go_wp2_with fail
                go_roundw
                case rel =>
                  refine ⟨c + 1, by omega, by go_num, _, _, H2.out, .inr ⟨HS2.out, ?_⟩⟩
                  rcases HF.out with ⟨e0, _⟩ | ⟨hn, hf⟩
                  · subst e0; exact far_first HA.out.inv (by omega)
                  · exact far_scan HA.out.inv (by omega) hf hn
                case measure => simp [intOf]; omega
            · obtain rfl : c = k + 1 := by omega
              exfalso
              rcases HF.out with ⟨e0, _⟩ | ⟨hn, hf⟩
              · omega
              · exact hn (far_end hA.inv hf)
end Go.Proofs.Ytokcodeeaneeaaa
