/- StoreChains. -/
import Derived.Test.YtefpabicgefciaaGreatDb27
import Derived.Test.YtefpabicgefciaaGreatDb10
namespace Go.Proofs.YtefpabicgefciaaGreat
open Go.RowKit
set_option linter.unusedVariables false
set_option linter.unusedSimpArgs false
set_option linter.unusedSectionVars false


theorem pair_ok {rs : List InV} {ts : List ByteArray} (h : ChP rs ts) (hl : ts.length ≤ 13) {a m : Nat} {t t' : ByteArray} (hlt : a + m < ts.length) (ht : ts[a]? = some t) (ht' : ts[a + m]? = some t') :
    (Dl.allE t.size (between rs a m)).2 = 0 ∧ (Dl.allE t.size (between rs a m)).1.length ≤ 4096 := by
  obtain ⟨e, c, _⟩ := del_ok h hl hlt ht ht'
  exact ⟨e, (Dl.chkL_zero.1 c).1⟩
theorem comp_ok {rs : List InV} {ts : List ByteArray} (h : ChP rs ts) (hl : ts.length ≤ 13) {a m k : Nat} {t u v : ByteArray} (hlt : a + m + k < ts.length) (ht : ts[a]? = some t) (hu : ts[a + m]? = some u) (hv : ts[a + m + k]? = some v) :
    Dl.cmp (Dl.allE t.size (between rs a m)).1 (Dl.allE u.size (between rs (a + m) k)).1 = ((Dl.allE t.size (between rs a (m + k))).1, 0) := by
  obtain ⟨c1, c2, _⟩ := h.chain hl (m + k) a t v (by omega) ht (by rw [← Nat.add_assoc]; exact hv)
  obtain ⟨d1, d2, _⟩ := h.chain hl m a t u (by omega) ht hu
  have hi := (List.getElem?_eq_some_iff.1 ht).1
  obtain ⟨r, hr⟩ : ∃ r, rs[a]? = some r := ⟨rs[a]'(by rw [h.len]; exact hi), List.getElem?_eq_getElem _⟩
  obtain ⟨_, t2, e, _, z⟩ := h.at' a r hr
  rw [ht] at e
  injection e with e
  rw [← between_app] at c1 ⊢
  exact Dl.all_comp (by rw [e]; omega) c1 d2
set_option maxHeartbeats 1000000 in
theorem dl_call {B sb : Nat} {cs : Array Value} {rv tv : Value} {rs : List InV} {ts : List ByteArray} {w : World} (hC : Chn B sb cs rv tv rs ts w) (hp : ChP rs ts) {n : Nat} (hn : ts.length = n + 1) (hn12 : n ≤ 12) {a m : Nat} {t t' : ByteArray} (hlt : a + m < n + 1) (ht : ts[a]? = some t) (ht' : ts[a + m]? = some t') :
    Calls Tryz.prog 43 #[.pointer (some ⟨sb, 0, none⟩), .int .i64 (a : Int), .int .i64 ((a + m : Nat) : Int)] w fun e w' => ∃ A c, e = .returned (.tuple #[.slice A (Dl.allE t.size (between rs a m)).1.length c, .int .i64 0]) ∧ InPc w' A (Dl.allE t.size (between rs a m)).1.length (Dl.allE t.size (between rs a m)).1 ∧ Ch (fun _ => False) w w' := by
  obtain ⟨g, cap, tg, tc, q1, q2, q3, q4, q5, q6⟩ := chn_at hC hp hn
  refine (delta_any B sb (n + 1) cap g rs a (a + m) w q2 q3 q4 q5 (by omega) hlt (by omega)).mono ?_
  rintro e w2 ⟨v, r, hr, rfl, hown, hc⟩
  have hrb : r.x.b = t.size := by
    obtain ⟨_, t2, e3, e4, _⟩ := hp.at' a r hr
    rw [ht] at e3; injection e3 with e3; rw [e3]; exact e4
  rw [hrb, Nat.add_sub_cancel_left] at hown ⊢
  obtain ⟨p1, p2⟩ := pair_ok hp (by omega) (by omega) ht ht'
  rw [p1]
  obtain ⟨A2, c2, hv2, hc2, _, hin⟩ := own_pc hown
  exact ⟨A2, c2, by rw [hv2], hin, hc⟩
theorem InPc.kp {w w' : World} {a : Option Addr} {n : Nat} {xs : List Pc} (h : InPc w a n xs) (c : Ch (fun _ => False) w w') : InPc w' a n xs := h.keep c (fun _ _ _ _ => id)
theorem chains_made {w : World} {v : Value} {B : Nat} {l : List Pc} (h : MadeP B w v l) : ∃ A c, v = .slice A l.length c ∧ InPc w A l.length l := by
  obtain ⟨A2, c2, hv2, hc2, _, hin⟩ := own_pc h
  exact ⟨A2, c2, hv2, hin⟩
set_option maxRecDepth 100000 in
set_option maxHeartbeats 4000000 in
theorem chains_walk (s : ByteArray) (a : Option Addr) (n c : Nat) (l : List Ed) (w : World) (h : InEd w a n l) (hs : s.size ≤ maxLen) :
    Calls Tryz.prog 4 #[.string s, .slice a n c] w fun e w' => e = .returned (.bool true) ∧ Below w.heap.size w w' := by
  have H := hid h
  have HB := hid hs
  clear h hs
  go_enter Tryz.func4, Tryz.ntmps4
  go_wp2_with fail
  refine (short_any s a n c l w H.out HB.out).mono ?_
  rintro e w0 ⟨b, rfl, hb, rfl⟩
  cases b with
  | false =>
    go_wp2_with fail
    go_ret
    exact ⟨rfl, Below.refl _ _⟩
  | true =>
    have hsh := hb rfl
    have hn12 : n ≤ 12 := by rw [← H.out.1]; exact hsh.len
    have HS := hid hsh
    clear hb hsh
    by_cases h8 : 8 < n
    · have x1 : decide ((8 : Int) < (n : Int)) = true := decide_eq_true (by omega)
      have x2 : decide (8 < n) = true := decide_eq_true h8
      go_wp2_with fail
      go_ret
      exact ⟨rfl, Below.refl _ _⟩
    have x1 : decide ((8 : Int) < (n : Int)) = false := decide_eq_false (by omega)
    have x2 : decide (8 < n) = false := decide_eq_false h8
    clear h8
    go_wp2_with fail
    refine (chain_any s a n c l w H.out HS.out).mono ?_
    rintro e w1 ⟨sb, cs, rv, tv, rs, ts, rfl, hch, hcp, htl, hC⟩
    have K1 := hid hch
    have HP := hid hcp
    have HTL := hid htl
    have C1 := hid hC
    obtain ⟨g, cap, tg, tc, htv, _⟩ := chn_at hch hcp htl
    subst htv
    clear hch hcp htl hC
    go_wp2_with fail
    go_loopw [7] (fun i W => ∃ k : Nat, k ≤ n + 1 ∧ i = .int .i64 (k : Int) ∧ Ch (fun _ => False) w1 W) (fun i _ => n + 1 - (intOf i).toNat)
    case atStart => exact ⟨0, Nat.zero_le _, rfl, Ch.refl _ _⟩
    case round =>
      obtain ⟨k, hk, rfl, hC⟩ := hrel
      have HC := hid hC
      clear hC
      by_cases hlt : k < n + 1
      · have d1 : decide ((k : Int) < (n : Int) + 1) = true := decide_eq_true (by omega)
        have d2 : decide (k < n + 1) = true := decide_eq_true hlt
        obtain ⟨t, ht⟩ : ∃ t, ts[k]? = some t := ⟨ts[k]'(by rw [HTL.out]; exact hlt), List.getElem?_eq_getElem _⟩
        have HT := hid ht
        clear ht
        go_wp2_with fail
        go_loopw [8] (fun i W => ∃ j : Nat, k ≤ j ∧ j ≤ n + 1 ∧ i = .int .i64 (j : Int) ∧ Ch (fun _ => False) w1 W) (fun i _ => n + 1 - (intOf i).toNat)
        case atStart => exact ⟨k, Nat.le_refl _, hk, rfl, HC.out⟩
        case round =>
          obtain ⟨j, hkj, hj, rfl, hC⟩ := hrel
          have HC2 := hid hC
          clear hC
          by_cases hlj : j < n + 1
          · have e1 : decide ((j : Int) < (n : Int) + 1) = true := decide_eq_true (by omega)
            have e2 : decide (j < n + 1) = true := decide_eq_true hlj
            obtain ⟨u, hu⟩ : ∃ u, ts[j]? = some u := ⟨ts[j]'(by rw [HTL.out]; exact hlj), List.getElem?_eq_getElem _⟩
            have HU := hid hu
            clear hu
            go_wp2_with fail
            go_loopw [9] (fun i W => ∃ q : Nat, j ≤ q ∧ q ≤ n + 1 ∧ i = .int .i64 (q : Int) ∧ Ch (fun _ => False) w1 W) (fun i _ => n + 1 - (intOf i).toNat)
            case atStart => exact ⟨j, Nat.le_refl _, hj, rfl, HC2.out⟩
            case round =>
              obtain ⟨q, hjq, hq, rfl, hC⟩ := hrel
              have HC3 := hid hC
              have HK := hid (K1.out.keep hC)
              clear hC
              by_cases hlq : q < n + 1
              · have f1 : decide ((q : Int) < (n : Int) + 1) = true := decide_eq_true (by omega)
                have f2 : decide (q < n + 1) = true := decide_eq_true hlq
                obtain ⟨v, hv⟩ : ∃ v, ts[q]? = some v := ⟨ts[q]'(by rw [HTL.out]; exact hlq), List.getElem?_eq_getElem _⟩
                obtain ⟨m, hm⟩ : ∃ m, j = k + m := ⟨j - k, by omega⟩
                obtain ⟨p, hp⟩ : ∃ p, q = j + p := ⟨q - j, by omega⟩
                have HV := hid hv
                have HM := hid hm
                have HPP := hid hp
                clear hv hm hp
                have D1 := hid (show Calls Tryz.prog 43 #[.pointer (some ⟨sb, 0, none⟩), .int .i64 (k : Int), .int .i64 (j : Int)] wr fun e w' => ∃ A c, e = .returned (.tuple #[.slice A (Dl.allE t.size (between rs k m)).1.length c, .int .i64 0]) ∧ InPc w' A (Dl.allE t.size (between rs k m)).1.length (Dl.allE t.size (between rs k m)).1 ∧ Ch (fun _ => False) wr w' from by
                  have e := HM.out
                  have hu := HU.out
                  subst e
                  exact dl_call HK.out HP.out HTL.out (by omega) hlj HT.out hu)
                go_wp2_with fail
                refine D1.out.mono ?_
                rintro e w2 ⟨A1, c1, rfl, hin1, hc1⟩
                obtain ⟨d1, hd1⟩ : ∃ d, d = (Dl.allE t.size (between rs k m)).1 := ⟨_, rfl⟩
                have P1 := hid (show d1.length ≤ 4096 from by
                  have e := HM.out
                  have hu := HU.out
                  subst e
                  rw [hd1]
                  exact (pair_ok HP.out (by rw [HTL.out]; omega) (by rw [HTL.out]; omega) HT.out hu).2)
                rw [← hd1] at hin1 ⊢
                have HD1 := hid hd1
                obtain ⟨n1, hn1⟩ : ∃ x, x = d1.length := ⟨_, rfl⟩
                rw [← hn1] at hin1 ⊢
                have HN1 := hid hn1
                have I1 := hid hin1
                have CA := hid hc1
                have HK2 := hid (HK.out.keep hc1)
                clear hd1 hn1 hin1 hc1 D1
                have D2 := hid (show Calls Tryz.prog 43 #[.pointer (some ⟨sb, 0, none⟩), .int .i64 (j : Int), .int .i64 (q : Int)] w2 fun e w' => ∃ A c, e = .returned (.tuple #[.slice A (Dl.allE u.size (between rs j p)).1.length c, .int .i64 0]) ∧ InPc w' A (Dl.allE u.size (between rs j p)).1.length (Dl.allE u.size (between rs j p)).1 ∧ Ch (fun _ => False) w2 w' from by
                  have e := HPP.out
                  have hv := HV.out
                  subst e
                  exact dl_call HK2.out HP.out HTL.out (by omega) hlq HU.out hv)
                go_wp2_with fail
                refine D2.out.mono ?_
                rintro e w3 ⟨A2, c2, rfl, hin2, hc2⟩
                obtain ⟨d2, hd2⟩ : ∃ d, d = (Dl.allE u.size (between rs j p)).1 := ⟨_, rfl⟩
                have P2 := hid (show d2.length ≤ 4096 from by
                  have e := HPP.out
                  have hv := HV.out
                  subst e
                  rw [hd2]
                  exact (pair_ok HP.out (by rw [HTL.out]; omega) (by rw [HTL.out]; omega) HU.out hv).2)
                rw [← hd2] at hin2 ⊢
                have HD2 := hid hd2
                obtain ⟨n2, hn2⟩ : ∃ x, x = d2.length := ⟨_, rfl⟩
                rw [← hn2] at hin2 ⊢
                have HN2 := hid hn2
                have I2 := hid hin2
                have I1b := hid (I1.out.kp hc2)
                have CB := hid (CA.out.trans hc2 (fun _ _ h => h))
                have HK3 := hid (HK2.out.keep hc2)
                clear hd2 hn2 hin2 hc2 D2 CA HK2 I1
                have D3 := hid (show Calls Tryz.prog 43 #[.pointer (some ⟨sb, 0, none⟩), .int .i64 (k : Int), .int .i64 (q : Int)] w3 fun e w' => ∃ A c, e = .returned (.tuple #[.slice A (Dl.allE t.size (between rs k (m + p))).1.length c, .int .i64 0]) ∧ InPc w' A (Dl.allE t.size (between rs k (m + p))).1.length (Dl.allE t.size (between rs k (m + p))).1 ∧ Ch (fun _ => False) w3 w' from by
                  have e : q = k + (m + p) := by have := HPP.out; have := HM.out; omega
                  have hv := HV.out
                  clear HPP
                  subst e
                  exact dl_call HK3.out HP.out HTL.out (by omega) hlq HT.out hv)
                go_wp2_with fail
                refine D3.out.mono ?_
                rintro e w4 ⟨A3, c3, rfl, hin3, hc3⟩
                obtain ⟨d3, hd3⟩ : ∃ d, d = (Dl.allE t.size (between rs k (m + p))).1 := ⟨_, rfl⟩
                have P3 := hid (show d3.length ≤ 4096 from by
                  have e : q = k + (m + p) := by have := HPP.out; have := HM.out; omega
                  have hv := HV.out
                  rw [e] at hv
                  rw [hd3]
                  exact (pair_ok HP.out (by rw [HTL.out]; omega) (by rw [HTL.out]; omega) HT.out hv).2)
                have X := hid (show Dl.cmp d1 d2 = (d3, 0) from by
                  have hv := HV.out
                  have hu := HU.out
                  rw [HPP.out, HM.out] at hv
                  rw [HM.out] at hu
                  rw [HD1.out, HD2.out, hd3, HM.out]
                  exact comp_ok HP.out (by rw [HTL.out]; omega) (by rw [HTL.out]; have := HPP.out; have := HM.out; omega) HT.out hu hv)
                rw [← hd3] at hin3 ⊢
                obtain ⟨n3, hn3⟩ : ∃ x, x = d3.length := ⟨_, rfl⟩
                rw [← hn3] at hin3 ⊢
                have HN3 := hid hn3
                have I3 := hid hin3
                have I1c := hid (I1b.out.kp hc3)
                have I2b := hid (I2.out.kp hc3)
                have CC := hid (CB.out.trans hc3 (fun _ _ h => h))
                clear hd3 hn3 hin3 hc3 D3 CB I1b I2 HK3
                go_wp2_with fail
                refine (compose_any A1 A2 n1 c1 n2 c2 d1 d2 w4 I1c.out I2b.out (by have := P1.out; have := HN1.out; omega) (by have := P2.out; have := HN2.out; omega)).mono ?_
                rintro e w5 ⟨v5, rfl, hm5, hc5⟩
                rw [X.out] at hm5 ⊢
                obtain ⟨A5, c5, rfl, hin5⟩ := chains_made hm5
                rw [← HN3.out] at hin5 ⊢
                have I5 := hid hin5
                have I3b := hid (I3.out.kp hc5)
                have CD := hid (CC.out.trans hc5 (fun _ _ h => h))
                clear hm5 hin5 hc5 CC I1c I2b I3
                go_wp2_with fail
                refine (eqPieces_any A5 A3 n3 c5 c3 d3 w5 I5.out I3b.out (by have := P3.out; have := HN3.out; omega)).mono ?_
                rintro e w6 ⟨rfl, z, rfl⟩
                go_wp2_with fail
                go_roundw
                case rel => exact ⟨q + 1, by omega, by omega, by go_num, (HC3.out.trans CD.out (fun _ _ h => h)).drewN z⟩
                case measure => simp [intOf]; omega
              · obtain rfl : q = n + 1 := by omega
                have f1 : decide (((n + 1 : Nat) : Int) < (n : Int) + 1) = false := decide_eq_false (by push_cast; omega)
                have f3 : decide ((n : Int) + 1 < (n : Int) + 1) = false := decide_eq_false (by omega)
                push_cast
                go_wp2_with fail
                go_roundw
                case rel => exact ⟨j + 1, by omega, by omega, by go_num, HC3.out⟩
                case measure => simp [intOf]; omega
          · obtain rfl : j = n + 1 := by omega
            have e1 : decide (((n + 1 : Nat) : Int) < (n : Int) + 1) = false := decide_eq_false (by push_cast; omega)
            have e3 : decide ((n : Int) + 1 < (n : Int) + 1) = false := decide_eq_false (by omega)
            push_cast
            go_wp2_with fail
            go_roundw
            case rel => exact ⟨k + 1, hlt, by go_num, HC2.out⟩
            case measure => simp [intOf]; omega
      · obtain rfl : k = n + 1 := by omega
        have e1 : decide (((n + 1 : Nat) : Int) < (n : Int) + 1) = false := decide_eq_false (by push_cast; omega)
        have e3 : decide ((n : Int) + 1 < (n : Int) + 1) = false := decide_eq_false (by omega)
        push_cast
        go_wp2_with fail
        go_ret
        have t := C1.out.trans HC.out (fun _ _ h => h)
        exact ⟨rfl, t.below (Nat.le_refl _) (fun _ h => h.elim)⟩
theorem chains_in (s : ByteArray) (a : Option Addr) (n c : Nat) (ls : List (List Value)) (w : World) (hs : s.size ≤ maxLen) (h : InRowsS [some (some .i64), some (some .i64), none] w a n ls) :
    Calls Tryz.prog 4 #[.string s, .slice a n c] w fun e w' => e = .returned (.bool true) ∧ Below w.heap.size w w' := by
  obtain ⟨l, hl⟩ := in_ed h
  exact chains_walk s a n c l w hl hs
end Go.Proofs.YtefpabicgefciaaGreat
