/- The reference's New of a queue. -/
import Derived.Test.YtpkjjlahmjijnaaQNewA
namespace Go.Proofs.Ytpkjjlahmjijnaa
open Go.RowKit
set_option linter.unusedVariables false
set_option linter.unusedSimpArgs false

set_option maxRecDepth 100000 in
set_option maxHeartbeats 8000000 in
theorem rqnew_any (B p vb : Nat) (lv : Value) (s : BS) (hd tl r n : Int) (w : World) (h : RBank B w p vb lv s.vs s.lg) (hLn : s.vs.length ≤ 4096) :
    Calls Try.prog 16 #[.pointer (some ⟨p, 0, none⟩), .int .i64 hd, .int .i64 tl, .int .i64 r, .int .i64 n] w fun e w' => QOut (qerr s.vs hd tl r n) w w' 98 #[.pointer (some ⟨p, 0, none⟩), .int .i64 hd, .int .i64 tl, .int .i64 r, .int .i64 n, .bool false] e := by
  have hq0 := h.hp.cell 0
  simp only [List.getElem?_toArray, List.getElem?_cons_zero] at hq0
  obtain ⟨L, hL⟩ : ∃ L, L = s.vs.length := ⟨_, rfl⟩
  rw [← hL] at hLn hq0
  have HL := hid hL
  clear hL
  go_enter Try.func16, Try.ntmps16
  by_cases g1 : n < 1
  · have dn : decide (n < 1) = true := decide_eq_true g1
    have hq : qerr s.vs hd tl r n = 2 := by
      unfold qerr
      rw [← HL.out]
      rw [if_pos (by omega)]
    have HQ := hid hq
    clear hq
    go_wp2_with fail
    go_ret2
    exact ⟨Ch.refl _ _, .inl ⟨by rw [HQ.out]; decide, by rw [HQ.out]; rfl⟩⟩
  · have dn : decide (n < 1) = false := decide_eq_false g1
    by_cases g2 : 64 < n
    · have dn2 : decide (64 < n) = true := decide_eq_true g2
      have hq : qerr s.vs hd tl r n = 2 := by
        unfold qerr
        rw [← HL.out]
        rw [if_pos (by omega)]
      have HQ := hid hq
      clear hq
      go_wp2_with fail
      go_ret2
      exact ⟨Ch.refl _ _, .inl ⟨by rw [HQ.out]; decide, by rw [HQ.out]; rfl⟩⟩
    · have dn2 : decide (64 < n) = false := decide_eq_false g2
      by_cases eh : hd < 0
      · have dht : decide (hd < 0) = true := decide_eq_true eh
        have hq : qerr s.vs hd tl r n = 3 := by
          unfold qerr
          rw [← HL.out]
          rw [if_neg (by omega), if_pos (by omega)]
        have HQ := hid hq
        clear hq
        go_wp2_with fail
        go_ret2
        exact ⟨Ch.refl _ _, .inl ⟨by rw [HQ.out]; decide, by rw [HQ.out]; rfl⟩⟩
      · obtain ⟨hd, rfl⟩ := Int.eq_ofNat_of_zero_le (by omega : 0 ≤ hd)
        by_cases eh2 : L ≤ hd
        · have dh2 : decide (L ≤ hd) = true := decide_eq_true eh2
          have dh2i : decide ((L : Int) ≤ hd) = true := decide_eq_true (by omega)
          have hq : qerr s.vs hd tl r n = 3 := by
            unfold qerr
            rw [← HL.out]
            rw [if_neg (by omega), if_pos (by omega)]
          have HQ := hid hq
          clear hq
          go_wp2_with fail
          go_ret2
          exact ⟨Ch.refl _ _, .inl ⟨by rw [HQ.out]; decide, by rw [HQ.out]; rfl⟩⟩
        · have dh2 : decide (L ≤ hd) = false := decide_eq_false eh2
          have dh2i : decide ((L : Int) ≤ hd) = false := decide_eq_false (by omega)
          by_cases et : tl < 0
          · have dtt : decide (tl < 0) = true := decide_eq_true et
            have hq : qerr s.vs hd tl r n = 3 := by
              unfold qerr
              rw [← HL.out]
              rw [if_neg (by omega), if_pos (by omega)]
            have HQ := hid hq
            clear hq
            go_wp2_with fail
            go_ret2
            exact ⟨Ch.refl _ _, .inl ⟨by rw [HQ.out]; decide, by rw [HQ.out]; rfl⟩⟩
          · obtain ⟨tl, rfl⟩ := Int.eq_ofNat_of_zero_le (by omega : 0 ≤ tl)
            by_cases et2 : L ≤ tl
            · have dt2 : decide (L ≤ tl) = true := decide_eq_true et2
              have dt2i : decide ((L : Int) ≤ tl) = true := decide_eq_true (by omega)
              have hq : qerr s.vs hd tl r n = 3 := by
                unfold qerr
                rw [← HL.out]
                rw [if_neg (by omega), if_pos (by omega)]
              have HQ := hid hq
              clear hq
              go_wp2_with fail
              go_ret2
              exact ⟨Ch.refl _ _, .inl ⟨by rw [HQ.out]; decide, by rw [HQ.out]; rfl⟩⟩
            · have dt2 : decide (L ≤ tl) = false := decide_eq_false et2
              have dt2i : decide ((L : Int) ≤ tl) = false := decide_eq_false (by omega)
              by_cases er : r < 0
              · have drt : decide (r < 0) = true := decide_eq_true er
                have hq : qerr s.vs hd tl r n = 3 := by
                  unfold qerr
                  rw [← HL.out]
                  rw [if_neg (by omega), if_pos (by omega)]
                have HQ := hid hq
                clear hq
                go_wp2_with fail
                go_ret2
                exact ⟨Ch.refl _ _, .inl ⟨by rw [HQ.out]; decide, by rw [HQ.out]; rfl⟩⟩
              · obtain ⟨r, rfl⟩ := Int.eq_ofNat_of_zero_le (by omega : 0 ≤ r)
                have hwl : wrap64 ((L : Int) - n) = (L : Int) - n := by unfold wrap64; omega
                by_cases er2 : (L : Int) - n < r
                · have dr2 : decide ((L : Int) - n < r) = true := decide_eq_true er2
                  have dr2w : decide (wrap64 ((L : Int) - n) < r) = true := decide_eq_true (by rw [hwl]; exact er2)
                  have hq : qerr s.vs hd tl r n = 3 := by
                    unfold qerr
                    rw [← HL.out]
                    rw [if_neg (by omega), if_pos (by omega)]
                  have HQ := hid hq
                  clear hq
                  go_wp2_with fail
                  go_ret2
                  exact ⟨Ch.refl _ _, .inl ⟨by rw [HQ.out]; decide, by rw [HQ.out]; rfl⟩⟩
                · have dr2 : decide ((L : Int) - n < r) = false := decide_eq_false er2
                  have dr2w : decide (wrap64 ((L : Int) - n) < r) = false := decide_eq_false (by rw [hwl]; exact er2)
                  by_cases e5 : hd = tl
                  · subst e5
                    have hq : qerr s.vs hd hd r n = 9 := by
                      unfold qerr
                      rw [← HL.out]
                      rw [if_neg (by omega), if_neg (by omega), if_pos (by omega)]
                    have HQ := hid hq
                    clear hq
                    go_wp2_with fail
                    go_ret2
                    exact ⟨Ch.refl _ _, .inl ⟨by rw [HQ.out]; decide, by rw [HQ.out]; rfl⟩⟩
                  · have d5 : ((hd : Int) == tl) = false := by rw [beq_eq_false_iff_ne]; omega
                    have d5n : (hd == tl) = false := by simpa using e5
                    have d5d : decide (hd = tl) = false := decide_eq_false e5
                    have hw : wrap64 ((r : Int) + n) = (r : Int) + n := by unfold wrap64; omega
                    by_cases w11 : r ≤ hd
                    · by_cases w12 : (hd : Int) < r + n
                      · have w1a : decide (r ≤ hd) = true := decide_eq_true (by omega)
                        have w1ai : decide ((r : Int) ≤ hd) = true := decide_eq_true (by omega)
                        have w1b : decide ((hd : Int) < r + n) = true := decide_eq_true (by omega)
                        have w1bw : decide ((hd : Int) < wrap64 (r + n)) = true := decide_eq_true (by rw [hw]; omega)
                        have hq : qerr s.vs hd tl r n = 9 := by
                          unfold qerr
                          rw [← HL.out]
                          rw [if_neg (by omega), if_neg (by omega), if_pos (by omega)]
                        have HQ := hid hq
                        clear hq
                        go_wp2_with fail
                        go_ret2
                        exact ⟨Ch.refl _ _, .inl ⟨by rw [HQ.out]; decide, by rw [HQ.out]; rfl⟩⟩
                      · have w1a : decide (r ≤ hd) = true := decide_eq_true (by omega)
                        have w1ai : decide ((r : Int) ≤ hd) = true := decide_eq_true (by omega)
                        have w1b : decide ((hd : Int) < r + n) = false := decide_eq_false (by omega)
                        have w1bw : decide ((hd : Int) < wrap64 (r + n)) = false := decide_eq_false (by rw [hw]; omega)
                        by_cases w21 : r ≤ tl
                        · by_cases w22 : (tl : Int) < r + n
                          · have w2a : decide (r ≤ tl) = true := decide_eq_true (by omega)
                            have w2ai : decide ((r : Int) ≤ tl) = true := decide_eq_true (by omega)
                            have w2b : decide ((tl : Int) < r + n) = true := decide_eq_true (by omega)
                            have w2bw : decide ((tl : Int) < wrap64 (r + n)) = true := decide_eq_true (by rw [hw]; omega)
                            have hq : qerr s.vs hd tl r n = 9 := by
                              unfold qerr
                              rw [← HL.out]
                              rw [if_neg (by omega), if_neg (by omega), if_pos (by omega)]
                            have HQ := hid hq
                            clear hq
                            go_wp2_with fail
                            go_ret2
                            exact ⟨Ch.refl _ _, .inl ⟨by rw [HQ.out]; decide, by rw [HQ.out]; rfl⟩⟩
                          · have w2a : decide (r ≤ tl) = true := decide_eq_true (by omega)
                            have w2ai : decide ((r : Int) ≤ tl) = true := decide_eq_true (by omega)
                            have w2b : decide ((tl : Int) < r + n) = false := decide_eq_false (by omega)
                            have w2bw : decide ((tl : Int) < wrap64 (r + n)) = false := decide_eq_false (by rw [hw]; omega)
                            obtain ⟨zh, hzh⟩ : ∃ z, z = lk s.vs hd := ⟨_, rfl⟩
                            obtain ⟨zt, hzt⟩ : ∃ z, z = lk s.vs tl := ⟨_, rfl⟩
                            have cvh := (h.hc.cell hd).trans (u64s_getD s.vs hd (by have := HL.out; omega))
                            have cvt := (h.hc.cell tl).trans (u64s_getD s.vs tl (by have := HL.out; omega))
                            rw [← hzh] at cvh
                            rw [← hzt] at cvt
                            have Hzh := hid hzh
                            have Hzt := hid hzt
                            clear hzh hzt
                            by_cases z1 : zh = 0
                            · have z1b : (zh != 0) = false := by simpa using z1
                              by_cases z2 : zt = 0
                              · have z2b : (zt != 0) = false := by simpa using z2
                                go_wp2_with fail
                                go_loopw [12] (fun i wr => ∃ k : Nat, (k : Int) ≤ n ∧ i = .int .i64 k ∧ wr = w ∧ ∀ j : Nat, j < k → lk s.vs (r + j) = 0) (fun i _ => n.toNat - (intOf i).toNat)
                                case atStart => exact ⟨0, by omega, rfl, rfl, fun j hj => by omega⟩
                                case round =>
                                  obtain ⟨k, hk, rfl, rfl, hinv⟩ := hrel
                                  have Hinv := hid hinv
                                  clear hinv
                                  by_cases hlt : (k : Int) < n
                                  · have cv := (h.hc.cell (r + k)).trans (u64s_getD s.vs (r + k) (by have := HL.out; omega))
                                    have hrk : r + k < L := by omega
                                    obtain ⟨x, hx⟩ : ∃ x, x = lk s.vs (r + k) := ⟨_, rfl⟩
                                    rw [← hx] at cv
                                    have Hx := hid hx
                                    clear hx
                                    by_cases hx0 : x = 0
                                    · subst hx0
                                      go_wp2_with fail
                                      go_roundw
                                      case rel => exact ⟨k + 1, by omega, by go_num, by first | rfl | trivial, fun j hj => by
                                        by_cases hjk : j < k
                                        · exact Hinv.out j hjk
                                        · have : j = k := by omega
                                          subst this
                                          exact Hx.out.symm⟩
                                      case measure => simp [intOf]; omega
                                    · have hxb : (x != 0) = true := by simpa using hx0
                                      have hq : qerr s.vs hd tl r n = 8 := by
                                        unfold qerr
                                        rw [← HL.out]
                                        rw [if_neg (by omega), if_neg (by omega), if_neg (by omega), if_pos ⟨r + k, hrk, by rw [← Hx.out]; exact hx0, .inr (.inr ⟨by omega, by omega⟩)⟩]
                                      have HQ := hid hq
                                      clear hq
                                      go_wp2_with fail
                                      go_ret2
                                      exact ⟨Ch.refl _ _, .inl ⟨by rw [HQ.out]; decide, by rw [HQ.out]; rfl⟩⟩
                                  · have hq : qerr s.vs hd tl r n = 0 := by
                                      unfold qerr
                                      rw [← HL.out, if_neg (by omega), if_neg (by omega), if_neg (by omega), if_neg]
                                      rintro ⟨j, hj, hb, hc | hc | hc⟩
                                      · exact hb (by rw [show j = hd from by omega, ← Hzh.out]; exact z1)
                                      · exact hb (by rw [show j = tl from by omega, ← Hzt.out]; exact z2)
                                      · have := Hinv.out (j - r) (by omega)
                                        rw [show r + (j - r) = j from by omega] at this
                                        exact hb this
                                    go_wp2_with fail
                                    go_ret2
                                    exact ⟨(Ch.refl _ _).alloc _, .inr ⟨(by first | rfl | exact hq), _, Nat.le_refl _, rfl, Blk.new _ _ _⟩⟩
                              · have z2b : (zt != 0) = true := by simpa using z2
                                have hq : qerr s.vs hd tl r n = 8 := by
                                  unfold qerr
                                  rw [← HL.out]
                                  rw [if_neg (by omega), if_neg (by omega), if_neg (by omega), if_pos ⟨tl, by omega, by rw [← Hzt.out]; exact z2, .inr (.inl rfl)⟩]
                                have HQ := hid hq
                                clear hq
                                go_wp2_with fail
                                go_ret2
                                exact ⟨Ch.refl _ _, .inl ⟨by rw [HQ.out]; decide, by rw [HQ.out]; rfl⟩⟩
                            · have z1b : (zh != 0) = true := by simpa using z1
                              have hq : qerr s.vs hd tl r n = 8 := by
                                unfold qerr
                                rw [← HL.out]
                                rw [if_neg (by omega), if_neg (by omega), if_neg (by omega), if_pos ⟨hd, by omega, by rw [← Hzh.out]; exact z1, .inl rfl⟩]
                              have HQ := hid hq
                              clear hq
                              go_wp2_with fail
                              go_ret2
                              exact ⟨Ch.refl _ _, .inl ⟨by rw [HQ.out]; decide, by rw [HQ.out]; rfl⟩⟩
                        · have w2a : decide (r ≤ tl) = false := decide_eq_false (by omega)
                          have w2ai : decide ((r : Int) ≤ tl) = false := decide_eq_false (by omega)
                          have w2b : True := trivial
                          obtain ⟨zh, hzh⟩ : ∃ z, z = lk s.vs hd := ⟨_, rfl⟩
                          obtain ⟨zt, hzt⟩ : ∃ z, z = lk s.vs tl := ⟨_, rfl⟩
                          have cvh := (h.hc.cell hd).trans (u64s_getD s.vs hd (by have := HL.out; omega))
                          have cvt := (h.hc.cell tl).trans (u64s_getD s.vs tl (by have := HL.out; omega))
                          rw [← hzh] at cvh
                          rw [← hzt] at cvt
                          have Hzh := hid hzh
                          have Hzt := hid hzt
                          clear hzh hzt
                          by_cases z1 : zh = 0
                          · have z1b : (zh != 0) = false := by simpa using z1
                            by_cases z2 : zt = 0
                            · have z2b : (zt != 0) = false := by simpa using z2
                              go_wp2_with fail
                              go_loopw [12] (fun i wr => ∃ k : Nat, (k : Int) ≤ n ∧ i = .int .i64 k ∧ wr = w ∧ ∀ j : Nat, j < k → lk s.vs (r + j) = 0) (fun i _ => n.toNat - (intOf i).toNat)
                              case atStart => exact ⟨0, by omega, rfl, rfl, fun j hj => by omega⟩
                              case round =>
                                obtain ⟨k, hk, rfl, rfl, hinv⟩ := hrel
                                have Hinv := hid hinv
                                clear hinv
                                by_cases hlt : (k : Int) < n
                                · have cv := (h.hc.cell (r + k)).trans (u64s_getD s.vs (r + k) (by have := HL.out; omega))
                                  have hrk : r + k < L := by omega
                                  obtain ⟨x, hx⟩ : ∃ x, x = lk s.vs (r + k) := ⟨_, rfl⟩
                                  rw [← hx] at cv
                                  have Hx := hid hx
                                  clear hx
                                  by_cases hx0 : x = 0
                                  · subst hx0
                                    go_wp2_with fail
                                    go_roundw
                                    case rel => exact ⟨k + 1, by omega, by go_num, by first | rfl | trivial, fun j hj => by
                                      by_cases hjk : j < k
                                      · exact Hinv.out j hjk
                                      · have : j = k := by omega
                                        subst this
                                        exact Hx.out.symm⟩
                                    case measure => simp [intOf]; omega
                                  · have hxb : (x != 0) = true := by simpa using hx0
                                    have hq : qerr s.vs hd tl r n = 8 := by
                                      unfold qerr
                                      rw [← HL.out]
                                      rw [if_neg (by omega), if_neg (by omega), if_neg (by omega), if_pos ⟨r + k, hrk, by rw [← Hx.out]; exact hx0, .inr (.inr ⟨by omega, by omega⟩)⟩]
                                    have HQ := hid hq
                                    clear hq
                                    go_wp2_with fail
                                    go_ret2
                                    exact ⟨Ch.refl _ _, .inl ⟨by rw [HQ.out]; decide, by rw [HQ.out]; rfl⟩⟩
                                · have hq : qerr s.vs hd tl r n = 0 := by
                                    unfold qerr
                                    rw [← HL.out, if_neg (by omega), if_neg (by omega), if_neg (by omega), if_neg]
                                    rintro ⟨j, hj, hb, hc | hc | hc⟩
                                    · exact hb (by rw [show j = hd from by omega, ← Hzh.out]; exact z1)
                                    · exact hb (by rw [show j = tl from by omega, ← Hzt.out]; exact z2)
                                    · have := Hinv.out (j - r) (by omega)
                                      rw [show r + (j - r) = j from by omega] at this
                                      exact hb this
                                  go_wp2_with fail
                                  go_ret2
                                  exact ⟨(Ch.refl _ _).alloc _, .inr ⟨(by first | rfl | exact hq), _, Nat.le_refl _, rfl, Blk.new _ _ _⟩⟩
                            · have z2b : (zt != 0) = true := by simpa using z2
                              have hq : qerr s.vs hd tl r n = 8 := by
                                unfold qerr
                                rw [← HL.out]
                                rw [if_neg (by omega), if_neg (by omega), if_neg (by omega), if_pos ⟨tl, by omega, by rw [← Hzt.out]; exact z2, .inr (.inl rfl)⟩]
                              have HQ := hid hq
                              clear hq
                              go_wp2_with fail
                              go_ret2
                              exact ⟨Ch.refl _ _, .inl ⟨by rw [HQ.out]; decide, by rw [HQ.out]; rfl⟩⟩
                          · have z1b : (zh != 0) = true := by simpa using z1
                            have hq : qerr s.vs hd tl r n = 8 := by
                              unfold qerr
                              rw [← HL.out]
                              rw [if_neg (by omega), if_neg (by omega), if_neg (by omega), if_pos ⟨hd, by omega, by rw [← Hzh.out]; exact z1, .inl rfl⟩]
                            have HQ := hid hq
                            clear hq
                            go_wp2_with fail
                            go_ret2
                            exact ⟨Ch.refl _ _, .inl ⟨by rw [HQ.out]; decide, by rw [HQ.out]; rfl⟩⟩
                    · have w1a : decide (r ≤ hd) = false := decide_eq_false (by omega)
                      have w1ai : decide ((r : Int) ≤ hd) = false := decide_eq_false (by omega)
                      have w1b : True := trivial
                      by_cases w21 : r ≤ tl
                      · by_cases w22 : (tl : Int) < r + n
                        · have w2a : decide (r ≤ tl) = true := decide_eq_true (by omega)
                          have w2ai : decide ((r : Int) ≤ tl) = true := decide_eq_true (by omega)
                          have w2b : decide ((tl : Int) < r + n) = true := decide_eq_true (by omega)
                          have w2bw : decide ((tl : Int) < wrap64 (r + n)) = true := decide_eq_true (by rw [hw]; omega)
                          have hq : qerr s.vs hd tl r n = 9 := by
                            unfold qerr
                            rw [← HL.out]
                            rw [if_neg (by omega), if_neg (by omega), if_pos (by omega)]
                          have HQ := hid hq
                          clear hq
                          go_wp2_with fail
                          go_ret2
                          exact ⟨Ch.refl _ _, .inl ⟨by rw [HQ.out]; decide, by rw [HQ.out]; rfl⟩⟩
                        · have w2a : decide (r ≤ tl) = true := decide_eq_true (by omega)
                          have w2ai : decide ((r : Int) ≤ tl) = true := decide_eq_true (by omega)
                          have w2b : decide ((tl : Int) < r + n) = false := decide_eq_false (by omega)
                          have w2bw : decide ((tl : Int) < wrap64 (r + n)) = false := decide_eq_false (by rw [hw]; omega)
                          obtain ⟨zh, hzh⟩ : ∃ z, z = lk s.vs hd := ⟨_, rfl⟩
                          obtain ⟨zt, hzt⟩ : ∃ z, z = lk s.vs tl := ⟨_, rfl⟩
                          have cvh := (h.hc.cell hd).trans (u64s_getD s.vs hd (by have := HL.out; omega))
                          have cvt := (h.hc.cell tl).trans (u64s_getD s.vs tl (by have := HL.out; omega))
                          rw [← hzh] at cvh
                          rw [← hzt] at cvt
                          have Hzh := hid hzh
                          have Hzt := hid hzt
                          clear hzh hzt
                          by_cases z1 : zh = 0
                          · have z1b : (zh != 0) = false := by simpa using z1
                            by_cases z2 : zt = 0
                            · have z2b : (zt != 0) = false := by simpa using z2
                              go_wp2_with fail
                              go_loopw [12] (fun i wr => ∃ k : Nat, (k : Int) ≤ n ∧ i = .int .i64 k ∧ wr = w ∧ ∀ j : Nat, j < k → lk s.vs (r + j) = 0) (fun i _ => n.toNat - (intOf i).toNat)
                              case atStart => exact ⟨0, by omega, rfl, rfl, fun j hj => by omega⟩
                              case round =>
                                obtain ⟨k, hk, rfl, rfl, hinv⟩ := hrel
                                have Hinv := hid hinv
                                clear hinv
                                by_cases hlt : (k : Int) < n
                                · have cv := (h.hc.cell (r + k)).trans (u64s_getD s.vs (r + k) (by have := HL.out; omega))
                                  have hrk : r + k < L := by omega
                                  obtain ⟨x, hx⟩ : ∃ x, x = lk s.vs (r + k) := ⟨_, rfl⟩
                                  rw [← hx] at cv
                                  have Hx := hid hx
                                  clear hx
                                  by_cases hx0 : x = 0
                                  · subst hx0
                                    go_wp2_with fail
                                    go_roundw
                                    case rel => exact ⟨k + 1, by omega, by go_num, by first | rfl | trivial, fun j hj => by
                                      by_cases hjk : j < k
                                      · exact Hinv.out j hjk
                                      · have : j = k := by omega
                                        subst this
                                        exact Hx.out.symm⟩
                                    case measure => simp [intOf]; omega
                                  · have hxb : (x != 0) = true := by simpa using hx0
                                    have hq : qerr s.vs hd tl r n = 8 := by
                                      unfold qerr
                                      rw [← HL.out]
                                      rw [if_neg (by omega), if_neg (by omega), if_neg (by omega), if_pos ⟨r + k, hrk, by rw [← Hx.out]; exact hx0, .inr (.inr ⟨by omega, by omega⟩)⟩]
                                    have HQ := hid hq
                                    clear hq
                                    go_wp2_with fail
                                    go_ret2
                                    exact ⟨Ch.refl _ _, .inl ⟨by rw [HQ.out]; decide, by rw [HQ.out]; rfl⟩⟩
                                · have hq : qerr s.vs hd tl r n = 0 := by
                                    unfold qerr
                                    rw [← HL.out, if_neg (by omega), if_neg (by omega), if_neg (by omega), if_neg]
                                    rintro ⟨j, hj, hb, hc | hc | hc⟩
                                    · exact hb (by rw [show j = hd from by omega, ← Hzh.out]; exact z1)
                                    · exact hb (by rw [show j = tl from by omega, ← Hzt.out]; exact z2)
                                    · have := Hinv.out (j - r) (by omega)
                                      rw [show r + (j - r) = j from by omega] at this
                                      exact hb this
                                  go_wp2_with fail
                                  go_ret2
                                  exact ⟨(Ch.refl _ _).alloc _, .inr ⟨(by first | rfl | exact hq), _, Nat.le_refl _, rfl, Blk.new _ _ _⟩⟩
                            · have z2b : (zt != 0) = true := by simpa using z2
                              have hq : qerr s.vs hd tl r n = 8 := by
                                unfold qerr
                                rw [← HL.out]
                                rw [if_neg (by omega), if_neg (by omega), if_neg (by omega), if_pos ⟨tl, by omega, by rw [← Hzt.out]; exact z2, .inr (.inl rfl)⟩]
                              have HQ := hid hq
                              clear hq
                              go_wp2_with fail
                              go_ret2
                              exact ⟨Ch.refl _ _, .inl ⟨by rw [HQ.out]; decide, by rw [HQ.out]; rfl⟩⟩
                          · have z1b : (zh != 0) = true := by simpa using z1
                            have hq : qerr s.vs hd tl r n = 8 := by
                              unfold qerr
                              rw [← HL.out]
                              rw [if_neg (by omega), if_neg (by omega), if_neg (by omega), if_pos ⟨hd, by omega, by rw [← Hzh.out]; exact z1, .inl rfl⟩]
                            have HQ := hid hq
                            clear hq
                            go_wp2_with fail
                            go_ret2
                            exact ⟨Ch.refl _ _, .inl ⟨by rw [HQ.out]; decide, by rw [HQ.out]; rfl⟩⟩
                      · have w2a : decide (r ≤ tl) = false := decide_eq_false (by omega)
                        have w2ai : decide ((r : Int) ≤ tl) = false := decide_eq_false (by omega)
                        have w2b : True := trivial
                        obtain ⟨zh, hzh⟩ : ∃ z, z = lk s.vs hd := ⟨_, rfl⟩
                        obtain ⟨zt, hzt⟩ : ∃ z, z = lk s.vs tl := ⟨_, rfl⟩
                        have cvh := (h.hc.cell hd).trans (u64s_getD s.vs hd (by have := HL.out; omega))
                        have cvt := (h.hc.cell tl).trans (u64s_getD s.vs tl (by have := HL.out; omega))
                        rw [← hzh] at cvh
                        rw [← hzt] at cvt
                        have Hzh := hid hzh
                        have Hzt := hid hzt
                        clear hzh hzt
                        by_cases z1 : zh = 0
                        · have z1b : (zh != 0) = false := by simpa using z1
                          by_cases z2 : zt = 0
                          · have z2b : (zt != 0) = false := by simpa using z2
                            go_wp2_with fail
                            go_loopw [12] (fun i wr => ∃ k : Nat, (k : Int) ≤ n ∧ i = .int .i64 k ∧ wr = w ∧ ∀ j : Nat, j < k → lk s.vs (r + j) = 0) (fun i _ => n.toNat - (intOf i).toNat)
                            case atStart => exact ⟨0, by omega, rfl, rfl, fun j hj => by omega⟩
                            case round =>
                              obtain ⟨k, hk, rfl, rfl, hinv⟩ := hrel
                              have Hinv := hid hinv
                              clear hinv
                              by_cases hlt : (k : Int) < n
                              · have cv := (h.hc.cell (r + k)).trans (u64s_getD s.vs (r + k) (by have := HL.out; omega))
                                have hrk : r + k < L := by omega
                                obtain ⟨x, hx⟩ : ∃ x, x = lk s.vs (r + k) := ⟨_, rfl⟩
                                rw [← hx] at cv
                                have Hx := hid hx
                                clear hx
                                by_cases hx0 : x = 0
                                · subst hx0
                                  go_wp2_with fail
                                  go_roundw
                                  case rel => exact ⟨k + 1, by omega, by go_num, by first | rfl | trivial, fun j hj => by
                                    by_cases hjk : j < k
                                    · exact Hinv.out j hjk
                                    · have : j = k := by omega
                                      subst this
                                      exact Hx.out.symm⟩
                                  case measure => simp [intOf]; omega
                                · have hxb : (x != 0) = true := by simpa using hx0
                                  have hq : qerr s.vs hd tl r n = 8 := by
                                    unfold qerr
                                    rw [← HL.out]
                                    rw [if_neg (by omega), if_neg (by omega), if_neg (by omega), if_pos ⟨r + k, hrk, by rw [← Hx.out]; exact hx0, .inr (.inr ⟨by omega, by omega⟩)⟩]
                                  have HQ := hid hq
                                  clear hq
                                  go_wp2_with fail
                                  go_ret2
                                  exact ⟨Ch.refl _ _, .inl ⟨by rw [HQ.out]; decide, by rw [HQ.out]; rfl⟩⟩
                              · have hq : qerr s.vs hd tl r n = 0 := by
                                  unfold qerr
                                  rw [← HL.out, if_neg (by omega), if_neg (by omega), if_neg (by omega), if_neg]
                                  rintro ⟨j, hj, hb, hc | hc | hc⟩
                                  · exact hb (by rw [show j = hd from by omega, ← Hzh.out]; exact z1)
                                  · exact hb (by rw [show j = tl from by omega, ← Hzt.out]; exact z2)
                                  · have := Hinv.out (j - r) (by omega)
                                    rw [show r + (j - r) = j from by omega] at this
                                    exact hb this
                                go_wp2_with fail
                                go_ret2
                                exact ⟨(Ch.refl _ _).alloc _, .inr ⟨(by first | rfl | exact hq), _, Nat.le_refl _, rfl, Blk.new _ _ _⟩⟩
                          · have z2b : (zt != 0) = true := by simpa using z2
                            have hq : qerr s.vs hd tl r n = 8 := by
                              unfold qerr
                              rw [← HL.out]
                              rw [if_neg (by omega), if_neg (by omega), if_neg (by omega), if_pos ⟨tl, by omega, by rw [← Hzt.out]; exact z2, .inr (.inl rfl)⟩]
                            have HQ := hid hq
                            clear hq
                            go_wp2_with fail
                            go_ret2
                            exact ⟨Ch.refl _ _, .inl ⟨by rw [HQ.out]; decide, by rw [HQ.out]; rfl⟩⟩
                        · have z1b : (zh != 0) = true := by simpa using z1
                          have hq : qerr s.vs hd tl r n = 8 := by
                            unfold qerr
                            rw [← HL.out]
                            rw [if_neg (by omega), if_neg (by omega), if_neg (by omega), if_pos ⟨hd, by omega, by rw [← Hzh.out]; exact z1, .inl rfl⟩]
                          have HQ := hid hq
                          clear hq
                          go_wp2_with fail
                          go_ret2
                          exact ⟨Ch.refl _ _, .inl ⟨by rw [HQ.out]; decide, by rw [HQ.out]; rfl⟩⟩
end Go.Proofs.Ytpkjjlahmjijnaa
