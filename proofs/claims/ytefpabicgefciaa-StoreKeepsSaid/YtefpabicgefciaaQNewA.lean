/- queue.New and the reference's. -/
import Derived.Test.YtefpabicgefciaaBothA
namespace Go.Proofs.Ytefpabicgefciaa
open Go.RowKit
set_option linter.unusedVariables false
set_option linter.unusedSimpArgs false

/-- Is c an index of a slice of n elements? -/
def exB (c : Int) (n : Nat) : Bool := decide (0 ≤ c ∧ c < n)
theorem exists_any (c : Int) (g n cp : Nat) (a : Option Addr) (w : World) (h : w.cell? ⟨g, 0, none⟩ = some (.slice a n cp)) :
    Calls Try.prog 26 #[.int .i64 c, .pointer (some ⟨g, 0, none⟩)] w fun e w' => e = .returned (.bool (exB c n)) ∧ w = w' := by
  unfold exB
  by_cases h0 : 0 ≤ c
  · obtain ⟨c, rfl⟩ := Int.eq_ofNat_of_zero_le h0
    by_cases h1 : c < n
    · go_enter Try.func26, Try.ntmps26
      go_wp2_with fail
      go_ret
      exact ⟨by simp [h1], rfl⟩
    · go_enter Try.func26, Try.ntmps26
      go_wp2_with fail
      go_ret
      exact ⟨by simp [h1], rfl⟩
  · go_enter Try.func26, Try.ntmps26
    go_wp2_with fail
    go_ret
    exact ⟨by simp; omega, rfl⟩

/-- Does c lie among the n cells from r on? -/
def wiB (r n c : Int) : Bool := decide (r ≤ c ∧ c < r + n)
theorem within_any (c : Int) (gr gn : Nat) (r n : Int) (w : World) (hr : w.cell? ⟨gr, 0, none⟩ = some (.int .i64 r)) (hn : w.cell? ⟨gn, 0, none⟩ = some (.int .i64 n)) (hb : 0 ≤ r ∧ r ≤ 1000000) (hm : 0 ≤ n ∧ n ≤ 1000000) :
    Calls Try.prog 27 #[.int .i64 c, .pointer (some ⟨gr, 0, none⟩), .pointer (some ⟨gn, 0, none⟩)] w fun e w' => e = .returned (.bool (wiB r n c)) ∧ w = w' := by
  unfold wiB
  by_cases h0 : r ≤ c
  · by_cases h1 : c < r + n
    · go_enter Try.func27, Try.ntmps27
      go_wp2_with fail
      go_ret
      exact ⟨by simp [h0, h1], rfl⟩
    · go_enter Try.func27, Try.ntmps27
      go_wp2_with fail
      go_ret
      exact ⟨by simp [h1], rfl⟩
  · go_enter Try.func27, Try.ntmps27
    go_wp2_with fail
    go_ret
    exact ⟨by simp; omega, rfl⟩

open Classical in
/-- The error of New. -/
noncomputable def qerr (vs : List Int) (hd tl r n : Int) : Int :=
  if n < 1 ∨ 64 < n then 2
  else if ¬ ((0 ≤ hd ∧ hd < vs.length) ∧ (0 ≤ tl ∧ tl < vs.length) ∧ (0 ≤ r ∧ r ≤ vs.length - n)) then 3
  else if hd = tl ∨ (r ≤ hd ∧ hd < r + n) ∨ (r ≤ tl ∧ tl < r + n) then 9
  else if (∃ j : Nat, j < vs.length ∧ lk vs j ≠ 0 ∧ ((j : Int) = hd ∨ (j : Int) = tl ∨ (r ≤ j ∧ j < r + n))) then 8
  else 0

def QOut (k : Int) (w w' : World) (t : TypeId) (cs : Array Value) (e : Ending) : Prop :=
  Ch (fun _ => False) w w' ∧ ((k ≠ 0 ∧ e = .returned (.tuple #[.pointer none, .int .i64 k])) ∨ (k = 0 ∧ ∃ q, w.heap.size ≤ q ∧ e = .returned (.tuple #[.pointer (some ⟨q, 0, none⟩), .int .i64 0]) ∧ Blk w' q t cs))

set_option maxRecDepth 100000 in
set_option maxHeartbeats 4000000 in
theorem qnew_any (B p cb : Nat) (lv : Value) (s : BS) (hd tl r n : Int) (w : World) (h : Bank B w p cb lv s.vs s.lg) (hLn : s.vs.length ≤ 4096) :
    Calls Try.prog 15 #[.pointer (some ⟨p, 0, none⟩), .int .i64 hd, .int .i64 tl, .int .i64 r, .int .i64 n] w fun e w' => QOut (qerr s.vs hd tl r n) w w' 112 #[.pointer (some ⟨p, 0, none⟩), .int .i64 hd, .int .i64 tl, .int .i64 r, .int .u64 n, .pointer none] e := by
  by_cases g1 : n < 1
  · have hq : qerr s.vs hd tl r n = 2 := by unfold qerr; rw [if_pos (.inl g1)]
    have HQ := hid hq
    clear hq
    go_enter Try.func15, Try.ntmps15
    go_wp2_with fail
    go_ret2
    exact ⟨((Ch.refl _ w).alloc _).alloc _, .inl ⟨by rw [HQ.out]; decide, by rw [HQ.out]; rfl⟩⟩
  · by_cases g2 : 64 < n
    · have hq : qerr s.vs hd tl r n = 2 := by unfold qerr; rw [if_pos (.inr g2)]
      have HQ := hid hq
      clear hq
      go_enter Try.func15, Try.ntmps15
      go_wp2_with fail
      go_ret2
      exact ⟨((Ch.refl _ w).alloc _).alloc _, .inl ⟨by rw [HQ.out]; decide, by rw [HQ.out]; rfl⟩⟩
    · have hn1 : 1 ≤ n := by omega
      have hn2 : n ≤ 64 := by omega
      go_enter Try.func15, Try.ntmps15
      go_wp2_with fail
      refine calls_world fun W hW => ?_
      have cW : Ch (fun _ => False) w W := by rw [hW]; exact ((Ch.refl _ w).alloc _).alloc _
      have cr : W.cell? ⟨w.heap.size, 0, none⟩ = some (.int .i64 r) := by rw [hW]; simp
      have cn : W.cell? ⟨w.heap.size + 1, 0, none⟩ = some (.int .i64 n) := by rw [hW]; simp
      have hs0 : w.heap.size < W.heap.size := by rw [hW]; simp; omega
      have hs1 : w.heap.size + 1 < W.heap.size := by rw [hW]; simp
      clear hW
      refine (values_any B p cb lv s W (h.ch cW id id (fun _ _ => id))).mono ?_
      rintro e w1 ⟨gv, rfl, hval, hc1, hgv⟩
      have cr1 := (hc1.cell (p := ⟨w.heap.size, 0, none⟩) hs0 id).trans cr
      have cn1 := (hc1.cell (p := ⟨w.heap.size + 1, 0, none⟩) hs1 id).trans cn
      have cw1 := cW.trans hc1 (fun _ _ h => h)
      obtain ⟨L, hL⟩ : ∃ L, L = s.vs.length := ⟨_, rfl⟩
      rw [← hL]
      rw [← hL] at hLn
      have HL := hid hL
      clear hL cr cn cW hs0 hs1 hgv h hc1
      go_wp2_with fail
      refine calls_world fun W2 hW => ?_
      have c2 : Ch (fun _ => False) w1 W2 := by rw [hW]; exact (Ch.refl _ _).alloc _
      have e2 : W2.cell? ⟨w1.heap.size, 0, none⟩ = some (.slice (some ⟨gv, 0, none⟩) L L) := by rw [hW]; simp
      have hv2 := c2.blk hval id
      have cr2 := (c2.cell (p := ⟨w.heap.size, 0, none⟩) (World.block_lt_of_cell? w1 _ cr1) id).trans cr1
      have cn2 := (c2.cell (p := ⟨w.heap.size + 1, 0, none⟩) (World.block_lt_of_cell? w1 _ cn1) id).trans cn1
      have cw2 := cw1.trans c2 (fun _ _ h => h)
      have Hv2 := hid hv2
      clear hW hval c2 cr1 cn1 cw1 hv2
      by_cases a1 : exB hd L = true
      · have E := exists_any hd w1.heap.size L L _ W2 e2
        rw [a1] at E
        refine E.mono ?_
        clear E
        rintro e w3 ⟨rfl, rfl⟩
        go_wp2_with fail
        by_cases a2 : exB tl L = true
        · have E := exists_any tl w1.heap.size L L _ W2 e2
          rw [a2] at E
          refine E.mono ?_
          clear E
          rintro e w3 ⟨rfl, rfl⟩
          go_wp2_with fail
          by_cases a3 : exB r L = true
          · have E := exists_any r w1.heap.size L L _ W2 e2
            rw [a3] at E
            refine E.mono ?_
            clear E
            rintro e w3 ⟨rfl, rfl⟩
            have hb1 : 0 ≤ hd ∧ hd < L := by simpa [exB] using a1
            have hb2 : 0 ≤ tl ∧ tl < L := by simpa [exB] using a2
            have hb3 : 0 ≤ r ∧ r < L := by simpa [exB] using a3
            by_cases a4 : (L : Int) - r < n
            · have d4 : decide ((L : Int) - r < n) = true := decide_eq_true a4
              have hwr : wrap64 ((L : Int) - r) = (L : Int) - r := by unfold wrap64; omega
              have dw : decide (wrap64 ((L : Int) - r) < n) = true := decide_eq_true (by rw [hwr]; omega)
              have d4b : decide ((L : Int) < n + r) = true := decide_eq_true (by omega)
              have d4c : decide ((L : Int) < r + n) = true := decide_eq_true (by omega)
              have hq : qerr s.vs hd tl r n = 3 := by
                unfold qerr
                rw [← HL.out]
                rw [if_neg (by omega), if_pos (by omega)]
              have HQ := hid hq
              clear hq
              go_wp2_with fail
              go_ret2
              exact ⟨cw2, .inl ⟨by rw [HQ.out]; decide, by rw [HQ.out]; rfl⟩⟩
            · have d4 : decide ((L : Int) - r < n) = false := decide_eq_false a4
              have hwr : wrap64 ((L : Int) - r) = (L : Int) - r := by unfold wrap64; omega
              have dw : decide (wrap64 ((L : Int) - r) < n) = false := decide_eq_false (by rw [hwr]; omega)
              have d4b : decide ((L : Int) < n + r) = false := decide_eq_false (by omega)
              have d4c : decide ((L : Int) < r + n) = false := decide_eq_false (by omega)
              by_cases a5 : hd = tl
              · obtain rfl := a5
                have d5 : (hd == hd) = true := by simp
                have hq : qerr s.vs hd hd r n = 9 := by
                  unfold qerr
                  rw [← HL.out]
                  rw [if_neg (by omega), if_neg (by omega), if_pos (by omega)]
                have HQ := hid hq
                clear hq
                go_wp2_with fail
                go_ret2
                exact ⟨cw2, .inl ⟨by rw [HQ.out]; decide, by rw [HQ.out]; rfl⟩⟩
              · have d5 : (hd == tl) = false := by simpa using a5
                have d5b : decide (hd = tl) = false := decide_eq_false a5
                go_wp2_with fail
                by_cases t1 : wiB r n hd = true
                · have E := within_any hd w.heap.size (w.heap.size + 1) r n W2 cr2 cn2 (by omega) (by omega)
                  rw [t1] at E
                  refine E.mono ?_
                  clear E
                  rintro e w3 ⟨rfl, rfl⟩
                  have hq : qerr s.vs hd tl r n = 9 := by
                    unfold qerr
                    rw [← HL.out]
                    rw [if_neg (by omega), if_neg (by omega), if_pos (by simp [wiB] at t1; omega)]
                  have HQ := hid hq
                  clear hq
                  go_wp2_with fail
                  go_ret2
                  exact ⟨cw2, .inl ⟨by rw [HQ.out]; decide, by rw [HQ.out]; rfl⟩⟩
                · have t1' : wiB r n hd = false := by simpa using t1
                  have E := within_any hd w.heap.size (w.heap.size + 1) r n W2 cr2 cn2 (by omega) (by omega)
                  rw [t1'] at E
                  refine E.mono ?_
                  clear E
                  rintro e w3 ⟨rfl, rfl⟩
                  go_wp2_with fail
                  by_cases t2 : wiB r n tl = true
                  · have E := within_any tl w.heap.size (w.heap.size + 1) r n W2 cr2 cn2 (by omega) (by omega)
                    rw [t2] at E
                    refine E.mono ?_
                    clear E
                    rintro e w3 ⟨rfl, rfl⟩
                    have hq : qerr s.vs hd tl r n = 9 := by
                      unfold qerr
                      rw [← HL.out]
                      rw [if_neg (by omega), if_neg (by omega), if_pos (by simp [wiB] at t2; omega)]
                    have HQ := hid hq
                    clear hq
                    go_wp2_with fail
                    go_ret2
                    exact ⟨cw2, .inl ⟨by rw [HQ.out]; decide, by rw [HQ.out]; rfl⟩⟩
                  · have t2' : wiB r n tl = false := by simpa using t2
                    have E := within_any tl w.heap.size (w.heap.size + 1) r n W2 cr2 cn2 (by omega) (by omega)
                    rw [t2'] at E
                    refine E.mono ?_
                    clear E
                    rintro e w3 ⟨rfl, rfl⟩
                    go_wp2_with fail
                    have hnh : ¬ (r ≤ hd ∧ hd < r + n) := fun hc => t1 (by simp [wiB, hc])
                    have hnt : ¬ (r ≤ tl ∧ tl < r + n) := fun hc => t2 (by simp [wiB, hc])
                    clear t1 t2 t1' t2' a1 a2 a3
                    go_loopw [68] (fun i wr => ∃ k : Nat, k ≤ L ∧ i = .int .i64 k ∧ wr = W2 ∧ ∀ j : Nat, j < k → ¬ (lk s.vs j ≠ 0 ∧ ((j : Int) = hd ∨ (j : Int) = tl ∨ (r ≤ j ∧ j < r + n)))) (fun i _ => L - (intOf i).toNat)
                    case atStart => exact ⟨0, Nat.zero_le _, rfl, rfl, fun j hj => by omega⟩
                    case round =>
                      obtain ⟨k, hk, rfl, rfl, hinv⟩ := hrel
                      have Hinv := hid hinv
                      clear hinv
                      by_cases hlt : k < L
                      · have cv := (Hv2.out.cell k).trans (u64s_getD s.vs k (by have := HL.out; omega))
                        obtain ⟨x, hx⟩ : ∃ x, x = lk s.vs k := ⟨_, rfl⟩
                        rw [← hx] at cv
                        have Hx := hid hx
                        clear hx
                        by_cases hx0 : x = 0
                        · have hxb : (x != 0) = false := by simpa using hx0
                          go_wp2_with fail
                          go_roundw
                          case rel => exact ⟨k + 1, by omega, by go_num, by first | rfl | trivial, fun j hj => by
                            by_cases hjk : j < k
                            · exact Hinv.out j hjk
                            · have : j = k := by omega
                              subst this
                              rw [← Hx.out]
                              exact fun hc => hc.1 hx0⟩
                          case measure => simp [intOf]; omega
                        · have hxb : (x != 0) = true := by simpa using hx0
                          by_cases hkh : (k : Int) = hd
                          · subst hkh
                            have hq : qerr s.vs (k : Int) tl r n = 8 := by
                              unfold qerr
                              rw [← HL.out]
                              rw [if_neg (by omega), if_neg (by omega), if_neg (by omega), if_pos ⟨k, hlt, by rw [← Hx.out]; exact hx0, .inl rfl⟩]
                            have HQ := hid hq
                            clear hq
                            go_wp2_with fail
                            go_ret2
                            exact ⟨cw2, .inl ⟨by rw [HQ.out]; decide, by rw [HQ.out]; rfl⟩⟩
                          · have hkb : ((k : Int) == hd) = false := by simpa using hkh
                            have hkbd : decide ((k : Int) = hd) = false := decide_eq_false hkh
                            by_cases hkt : (k : Int) = tl
                            · subst hkt
                              have hq : qerr s.vs hd (k : Int) r n = 8 := by
                                unfold qerr
                                rw [← HL.out]
                                rw [if_neg (by omega), if_neg (by omega), if_neg (by omega), if_pos ⟨k, hlt, by rw [← Hx.out]; exact hx0, .inr (.inl rfl)⟩]
                              have HQ := hid hq
                              clear hq
                              go_wp2_with fail
                              go_ret2
                              exact ⟨cw2, .inl ⟨by rw [HQ.out]; decide, by rw [HQ.out]; rfl⟩⟩
                            · have hkb2 : ((k : Int) == tl) = false := by simpa using hkt
                              have hkb2d : decide ((k : Int) = tl) = false := decide_eq_false hkt
                              go_wp2_with fail
                              by_cases hkw : wiB r n k = true
                              · have E := within_any k w.heap.size (w.heap.size + 1) r n wr cr2 cn2 (by omega) (by omega)
                                rw [hkw] at E
                                refine E.mono ?_
                                clear E
                                rintro e w3 ⟨rfl, rfl⟩
                                have hq : qerr s.vs hd tl r n = 8 := by
                                  unfold qerr
                                  rw [← HL.out]
                                  rw [if_neg (by omega), if_neg (by omega), if_neg (by omega), if_pos ⟨k, hlt, by rw [← Hx.out]; exact hx0, .inr (.inr (by simpa [wiB] using hkw))⟩]
                                have HQ := hid hq
                                clear hq
                                go_wp2_with fail
                                go_ret2
                                exact ⟨cw2, .inl ⟨by rw [HQ.out]; decide, by rw [HQ.out]; rfl⟩⟩
                              · have hkw' : wiB r n k = false := by simpa using hkw
                                have E := within_any k w.heap.size (w.heap.size + 1) r n wr cr2 cn2 (by omega) (by omega)
                                rw [hkw'] at E
                                refine E.mono ?_
                                clear E
                                rintro e w3 ⟨rfl, rfl⟩
                                go_wp2_with fail
                                go_roundw
                                case rel => exact ⟨k + 1, by omega, by go_num, by first | rfl | trivial, fun j hj => by
                                  by_cases hjk : j < k
                                  · exact Hinv.out j hjk
                                  · have : j = k := by omega
                                    subst this
                                    rintro ⟨_, hc | hc | hc⟩
                                    · exact hkh hc
                                    · exact hkt hc
                                    · exact hkw (by simp [wiB, hc])⟩
                                case measure => simp [intOf]; omega
                      · have hkn : k = L := by omega
                        subst hkn
                        have hq : qerr s.vs hd tl r n = 0 := by
                          unfold qerr
                          rw [← HL.out, if_neg (by omega), if_neg (by omega), if_neg (by omega), if_neg]
                          rintro ⟨j, hj, hb⟩
                          exact Hinv.out j hj hb
                        go_wp2_with fail
                        go_ret2
                        refine ⟨cw2.alloc _, .inr ⟨hq, _, cw2.size, rfl, Blk.new _ _ _⟩⟩
          · have a3' : exB r L = false := by simpa using a3
            have E := exists_any r w1.heap.size L L _ W2 e2
            rw [a3'] at E
            refine E.mono ?_
            clear E
            rintro e w3 ⟨rfl, rfl⟩
            have hq : qerr s.vs hd tl r n = 3 := by
              unfold qerr
              rw [← HL.out]
              rw [if_neg (by omega), if_pos (fun hc => a3 (by simp [exB]; omega))]
            have HQ := hid hq
            clear hq
            go_wp2_with fail
            go_ret2
            exact ⟨cw2, .inl ⟨by rw [HQ.out]; decide, by rw [HQ.out]; rfl⟩⟩
        · have a2' : exB tl L = false := by simpa using a2
          have E := exists_any tl w1.heap.size L L _ W2 e2
          rw [a2'] at E
          refine E.mono ?_
          clear E
          rintro e w3 ⟨rfl, rfl⟩
          have hq : qerr s.vs hd tl r n = 3 := by
            unfold qerr
            rw [← HL.out]
            rw [if_neg (by omega), if_pos (fun hc => a2 (by simp [exB]; omega))]
          have HQ := hid hq
          clear hq
          go_wp2_with fail
          go_ret2
          exact ⟨cw2, .inl ⟨by rw [HQ.out]; decide, by rw [HQ.out]; rfl⟩⟩
      · have a1' : exB hd L = false := by simpa using a1
        have E := exists_any hd w1.heap.size L L _ W2 e2
        rw [a1'] at E
        refine E.mono ?_
        clear E
        rintro e w3 ⟨rfl, rfl⟩
        have hq : qerr s.vs hd tl r n = 3 := by
          unfold qerr
          rw [← HL.out]
          rw [if_neg (by omega), if_pos (fun hc => a1 (by simp [exB]; omega))]
        have HQ := hid hq
        clear hq
        go_wp2_with fail
        go_ret2
        exact ⟨cw2, .inl ⟨by rw [HQ.out]; decide, by rw [HQ.out]; rfl⟩⟩
end Go.Proofs.Ytefpabicgefciaa
