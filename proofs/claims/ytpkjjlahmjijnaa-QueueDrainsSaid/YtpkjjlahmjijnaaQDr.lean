/- The queue: QueueDrains. -/
import Derived.Test.YtpkjjlahmjijnaaQPull
import Derived.Test.YtpkjjlahmjijnaaQOrd
namespace Go.Proofs.Ytpkjjlahmjijnaa
open Go.RowKit
set_option linter.unusedVariables false
set_option linter.unusedSimpArgs false
set_option linter.unusedSectionVars false


/-- What a whole pull left. -/
structure Past (n : Nat) (x x' : Xq) (q : Pl) : Prop where
  fin : q.fin = true
  pull : x'.pull = none
  inv : QInv n x'
  ps : x'.ps = x.ps
  st : x'.st = x.st
  ot : x'.ot = x.ot
  rs : x'.rs = x.rs
  l1 : x.s.lg.length ≤ x'.s.lg.length
  l2 : x'.s.lg.length ≤ x.s.lg.length + 3

section
variable {p cb qb X n M : Nat} {lv lv' vp vv vs vo vr vl vl' : Value} {x x' : Xq} {gp : List (Nat × Pu)} {gq : Option (Nat × Pl)} {w w1 w' : World}
theorem RunQ.past (h : RunQ w.heap.size p cb qb X n M lv vp vv vs vo vr vl x gp gq w w1) {g : Nat} {q : Pl} (k : Past n x x' q) (hM : M + 3 ≤ 500000)
    (hm : Mem w.heap.size w (runL w.heap.size p cb qb X n lv' vp vv vs vo vr vl' gp.length (gp.map Prod.fst) (gp.map fun y => y.2.v) x'.s x.st x.ot x.rs x'.pl (some (g, q)) gp) w') :
    RunQ w.heap.size p cb qb X n (M + 3) lv' vp vv vs vo vr vl' x' gp (some (g, q)) w w' := by
  have l1 := k.l1
  have l2 := k.l2
  have h1 := h.lg
  have h2 := h.pm
  have h3 := h.rm
  refine ⟨by rw [k.st, k.ot, k.rs]; exact hm, by rw [k.ps]; exact h.ps, k.inv, by omega, by omega, by rw [k.rs]; omega, fun i => ?_, fun i => ?_, hM, ?_⟩
  · rw [k.st]; have := h.sm i; omega
  · rw [k.ot]; have := h.om i; omega
  · rw [k.pull]; simp [k.fin]
end

theorem drain_left {a b j : Nat} (h : a + 1 ≤ b) (k : b + j ≤ 6) : a + (j + 1) ≤ 6 := by omega
/-- A push is idle and has its entry. -/
def PuAt.fits (y : Nat × Pu) : Bool := y.2.er == 0
theorem left_le (T H : Int) (p : Pu) : left T H p + 0 ≤ 6 := by
  unfold left
  repeat' split
  all_goals decide
theorem all_idle {ps : List Pu} {gp : List (Nat × Pu)} {L : Nat} (h : ps = gp.map Prod.snd) (hL : gp.length = L) (hi : ∀ i, i < L → ∃ g q, gp[i]? = some (g, q) ∧ q.ph = 0) : ∀ q ∈ ps, q.ph = 0 := by
  intro q hq
  rw [h] at hq
  obtain ⟨y, hy, rfl⟩ := List.mem_map.1 hq
  obtain ⟨i, hi'⟩ := List.getElem?_of_mem hy
  obtain ⟨g, q, e1, e2⟩ := hi i (by rw [← hL]; exact (List.getElem?_eq_some_iff.1 hi').1)
  rw [hi'] at e1
  obtain rfl := Option.some.inj e1
  exact e2
theorem count_idle {gp : List (Nat × Pu)} (h : ∀ q ∈ gp.map Prod.snd, q.ph = 0) : gp.countP PuAt.fits = (gp.map Prod.snd).countP Pu.has := by
  rw [List.countP_map]
  refine List.countP_congr fun y hy => ?_
  have := h y.2 (List.mem_map_of_mem hy)
  simp [PuAt.fits, Pu.has, this]
/-- The oldest entry, while all pushes rest, is stored. -/
theorem drain_some {n : Nat} {x : Xq} (h : QInv n x) (hn : x.pull = none) (hi : ∀ q ∈ x.ps, q.ph = 0) (hlt : x.pl.length < x.rs.length) (hz : lk x.s.vs (2 + x.pl.length % n) = 0) : False := by
  have h1 := h.ce1 x.pl.length (Nat.le_refl _) hlt (fun ⟨k, p, hk, h7, _⟩ => by
    have := hi p (List.mem_of_getElem? hk)
    rw [h7] at this
    exact absurd this (by decide)) (fun ⟨_, q, hq, _⟩ => by rw [hn] at hq; cases hq)
  rw [hz] at h1
  exact h.pos _ hlt h1.symm

/-- The events so far. -/
def DrSo (p cb qb X n M : Nat) (w0 w : World) : Prop :=
  ∃ lv vp vv vs vo vr vl x gp gq, x.pull = none ∧ RunQ w0.heap.size p cb qb X n M lv vp vv vs vo vr vl x gp gq w0 w
/-- The pushes ahead of j rest. -/
def DrTwo (p cb qb X n L M j : Nat) (c : Value) (w0 w : World) : Prop :=
  ∃ lv vp vv vs vo vr vl x gp gq, x.pull = none ∧ gp.length = L ∧ (∀ i, i < j → ∃ g q, gp[i]? = some (g, q) ∧ q.ph = 0) ∧ c = .int .i64 ((gp.take j).countP PuAt.fits : Nat) ∧ RunQ w0.heap.size p cb qb X n M lv vp vv vs vo vr vl x gp gq w0 w
/-- Push k is performed to its end. -/
def DrIn (p cb qb X n L M k c0 j : Nat) (w0 w : World) : Prop :=
  ∃ lv vp vv vs vo vr vl x gp gq g q, x.pull = none ∧ gp.length = L ∧ (∀ i, i < k → ∃ g q, gp[i]? = some (g, q) ∧ q.ph = 0) ∧ c0 = (gp.take k).countP PuAt.fits ∧ gp[k]? = some (g, q) ∧
    left (qT x.s (lawQ n)) (qH x.s (lawQ n)) q + j ≤ 6 ∧ RunQ w0.heap.size p cb qb X n M lv vp vv vs vo vr vl x gp gq w0 w
/-- All pushes rest; pulls. -/
def DrLast (p cb qb X n Mx : Nat) (vp vv vs vo vr : Value) (x : Xq) (gp : List (Nat × Pu)) (w0 w : World) : Prop :=
  ∃ lv vl y gq, y.pull = none ∧ y.ps = x.ps ∧ y.rs = x.rs ∧ RunQ w0.heap.size p cb qb X n (Mx + 3 * y.pl.length) lv vp vv vs vo vr vl y gp gq w0 w
/-- How many were pulled, as memory says. -/
def pulledN (X : Nat) (w : World) : Nat := match w.cell? ⟨X, 7, none⟩ with
  | some (.slice _ n _) => n
  | _ => 0
theorem pulledN_at {X : Nat} {w : World} {A : Option Addr} {n c : Nat} (h : w.cell? ⟨X, 7, none⟩ = some (.slice A n c)) : pulledN X w = n := by unfold pulledN; rw [h]

set_option maxRecDepth 100000 in
set_option maxHeartbeats 8000000 in
theorem drains_walk (n0 : Int) (a : Option Addr) (len cap : Nat) (ls : List (List Value)) (w : World) (hn : (Lit.int .i64 n0).wf = true) (hx : InRows evKs w a len ls) :
    Calls Try.prog 4 #[.int .i64 n0, .slice a len cap] w fun e w' => e = .returned (.bool true) ∧ Below w.heap.size w w' := by
  obtain ⟨xs, hev⟩ := in_evs hx
  have HE := hid hev
  clear hx hev
  by_cases h1 : n0 < 1
  · have d1 : decide (n0 < 1) = true := decide_eq_true h1
    go_enter Try.func4, Try.ntmps4
    go_wp2_with fail
    go_ret
    exact ⟨rfl, Below.refl _ _⟩
  have d1 : decide (n0 < 1) = false := decide_eq_false h1
  by_cases h2 : 6 < n0
  · have d2 : decide (6 < n0) = true := decide_eq_true h2
    go_enter Try.func4, Try.ntmps4
    go_wp2_with fail
    go_ret
    exact ⟨rfl, Below.refl _ _⟩
  have d2 : decide (6 < n0) = false := decide_eq_false h2
  by_cases h3 : 200 < len
  · have d3 : decide (200 < len) = true := decide_eq_true h3
    have d3' : decide ((200 : Int) < (len : Int)) = true := decide_eq_true (by omega)
    go_enter Try.func4, Try.ntmps4
    go_wp2_with fail
    go_ret
    exact ⟨rfl, Below.refl _ _⟩
  have d3 : decide (200 < len) = false := decide_eq_false h3
  have d3' : decide ((200 : Int) < (len : Int)) = false := decide_eq_false (by omega)
  obtain ⟨n, rfl⟩ := Int.eq_ofNat_of_zero_le (show 0 ≤ n0 by omega)
  have hl : len ≤ 200 := by omega
  go_enter Try.func4, Try.ntmps4
  go_wp2_with fail
  refine (begin_any n (by omega) (by omega) w).mono ?_
  rintro e w1 ⟨p, cb, qb, X, rfl, hr0⟩
  have HR0 := hid hr0
  clear hr0
  go_wp2_with fail
  go_loopw [6] (fun i wr => ∃ j : Nat, j ≤ len ∧ i = .int .i64 j ∧ DrSo p cb qb X n (3 * j) w wr) (fun i _ => len - (intOf i).toNat)
  case atStart => exact ⟨0, Nat.zero_le _, rfl, _, _, _, _, _, _, _, _, _, _, rfl, HR0.out⟩
  case round =>
    obtain ⟨j, hj, rfl, lv, vp, vv, vs, vo, vr, vl, x, gp, gq, hxn, hR⟩ := hrel
    have HN := hid hxn
    clear hxn
    by_cases hlt : j < len
    · have hxl := HE.out.1
      obtain ⟨b, off, rfl, hbl, hcell⟩ := HE.out.2.2 (by omega)
      obtain ⟨ev, hev⟩ : ∃ ev, xs[j]? = some ev := ⟨_, List.getElem?_eq_getElem (by omega)⟩
      obtain ⟨ek1, ek2, ek3, ek4⟩ := HE.out.2.1 ev (List.mem_of_getElem? hev)
      have c0 := (hR.mem.bel.cell (p := ⟨b, off + j * 4, none⟩) hbl).trans (hcell j 0 ev _ hev rfl)
      have c1 := (hR.mem.bel.cell (p := ⟨b, off + j * 4 + 1, none⟩) hbl).trans (hcell j 1 ev _ hev rfl)
      have c3 := (hR.mem.bel.cell (p := ⟨b, off + j * 4 + 3, none⟩) hbl).trans (hcell j 3 ev _ hev rfl)
      obtain ⟨Ap, cp, hvp, hcp⟩ := own_slice (hR.mem.each 0 _ rfl)
      obtain ⟨Av, cv, hvv, hcv⟩ := own_slice (hR.mem.each 1 _ rfl)
      obtain ⟨As, cs, hvs, hcs⟩ := own_slice (hR.mem.each 2 _ rfl)
      obtain ⟨Ao, co, hvo, hco⟩ := own_slice (hR.mem.each 3 _ rfl)
      obtain ⟨Ar, cr, hvr, hcr⟩ := own_slice (hR.mem.each 6 _ rfl)
      obtain ⟨Al, cl, hvl, hcl⟩ := own_slice (hR.mem.each 7 _ rfl)
      subst hvp hvv hvs hvo hvr hvl
      have hpm := hR.pm
      have d1 : decide (j < len) = true := decide_eq_true hlt
      have H := hid hR
      have EK2 := hid ek2
      have EK4 := hid ek4
      have x1 : wr.cell? ⟨X, 1, none⟩ = some (.pointer (some ⟨qb, 0, none⟩)) := (hR.mem.each 5 _ rfl).cell 1
      have x2 : wr.cell? ⟨X, 2, none⟩ = some (.slice Ap gp.length cp) := (hR.mem.each 5 _ rfl).cell 2
      have x3 : wr.cell? ⟨X, 3, none⟩ = some (.slice Av gp.length cv) := (hR.mem.each 5 _ rfl).cell 3
      have x4 : wr.cell? ⟨X, 4, none⟩ = some (.slice As gp.length cs) := (hR.mem.each 5 _ rfl).cell 4
      have x5 : wr.cell? ⟨X, 5, none⟩ = some (.slice Ao gp.length co) := (hR.mem.each 5 _ rfl).cell 5
      clear hev hcell hR ek2 ek4 ek3
      by_cases h0 : ev.d % 4 = 0
      · have e0 : (ev.d % 4 == 0) = true := by rw [beq_iff_eq]; exact h0
        clear h0
        have t0 := Int.emod_nonneg ev.t (show (16 : Int) ≠ 0 by omega)
        have t1 := Int.emod_lt_of_pos ev.t (show (0 : Int) < (16 : Int) by omega)
        obtain ⟨t, ht⟩ : ∃ t, t = ev.t % 16 := ⟨_, rfl⟩
        rw [← ht] at t0 t1
        have HT := hid ht
        have hvne : (gp.length : Int) + 1 ≠ 0 := by omega
        clear ht
        go_wp2_with fail
        refine Mix.wp_region_mix (fun _ => True) (fun i => ([0, 0, 0, 0, 0, 0, 0, 0, 0, 0, 0, 2, 0, 0, 0, 0, 0] : List Nat).getD i 0) [0, 1, 2, 3, 4, 5, 6, 7, 8, 9, 10, 11, 12, 13, 14, 15, 16] (by kernel_rfl) (by kernel_rfl) ?_
        repeat (first | (refine Mix.mix_q (by simp only [List.getElem?_toArray, List.getElem?_cons_zero, List.getElem?_cons_succ]; exact rfl) rfl ?_; go_big_quiet_step ((go_at_call 21; exact index_q16 ev.t _ EK2.out _)); refine wpQuiet_nil ?_) | (refine Mix.mix_p (by simp only [List.getElem?_toArray, List.getElem?_cons_zero, List.getElem?_cons_succ]; exact rfl) rfl rfl ?_; go_big_quiet_step (fail); refine wpQuiet_nil ?_))
        refine Mix.mix_e (by simp only [List.getElem?_toArray, List.getElem?_cons_zero, List.getElem?_cons_succ]; exact rfl) rfl fun W hW => ?_
        obtain ⟨n1, rfl⟩ := hW
        go_wp2_with fail
        rw [← HT.out]
        refine (qpush_ok qb _ t ((gp.length : Int) + 1) ⟨t0, t1⟩ hvne).mono ?_
        rintro e w2 ⟨g, rfl, hq2, c2, hg2⟩
        have M2 := hid ((H.out.drewN n1).mem.newPush g ⟨t, (gp.length : Int) + 1, 0, 0, 4, 0⟩ c2 hq2 hg2)
        clear hq2 c2 hg2 x1 x2 x3 x4 x5 c0 c1 c3
        go_wp2_with fail
        repeat (first | (refine Mix.mix_q (by simp only [List.getElem?_toArray, List.getElem?_cons_zero, List.getElem?_cons_succ]; exact rfl) rfl ?_; go_big_quiet_step (fail); refine wpQuiet_nil ?_) | (refine Mix.mix_p (by simp only [List.getElem?_toArray, List.getElem?_cons_zero, List.getElem?_cons_succ]; exact rfl) rfl rfl ?_; go_big_quiet_step (fail); refine wpQuiet_nil ?_))
        intro n2
        go_wp2_with fail
        obtain ⟨S, hS⟩ : ∃ S : Nat → Prop, ∀ k, S k ↔ k = X := ⟨_, fun _ => Iff.rfl⟩
        have hSp : Mix.Has S X := (hS _).2 rfl
        have HS := hid hS
        clear hS
        refine Mix.wp_region_X S (fun i => ([1, 1, 1, 1, 1, 1, 1, 4, 1, 3, 3, 1, 1, 1, 4, 1, 3, 3, 1, 1, 1, 4, 3, 3, 1, 1, 1, 4, 3, 3, 0, 0, 2, 0, 0, 2, 0, 0, 2, 0, 0, 2] : List Nat).getD i 0) (by kernel_rfl) ?_
        refine Mix.wpX_world fun w5 hw5 => ?_
        have m5 := M2.out.drewN n2
        rw [← hw5] at m5
        have M5 := hid m5
        have x2 : w5.cell? ⟨X, 2, none⟩ = some (.slice Ap gp.length cp) := (m5.each 5 _ rfl).cell 2
        have x3 : w5.cell? ⟨X, 3, none⟩ = some (.slice Av gp.length cv) := (m5.each 5 _ rfl).cell 3
        have x4 : w5.cell? ⟨X, 4, none⟩ = some (.slice As gp.length cs) := (m5.each 5 _ rfl).cell 4
        have x5 : w5.cell? ⟨X, 5, none⟩ = some (.slice Ao gp.length co) := (m5.each 5 _ rfl).cell 5
        clear hw5 m5 M2
        refine Mix.wpX_prefix (fuel := 20) (by kernel_rfl) [0, 1, 2, 3, 4, 5, 6, 7, 8, 11, 12, 13, 14, 15, 18, 19, 20, 21, 24, 25, 26, 27] _ _ _ (by kernel_rfl) ?_
        repeat (first | (refine Mix.mix_q (by simp only [List.getElem?_toArray, List.getElem?_cons_zero, List.getElem?_cons_succ]; exact rfl) rfl ?_; go_big_quiet_step (fail); refine wpQuiet_nil ?_) | (refine Mix.mix_p (by simp only [List.getElem?_toArray, List.getElem?_cons_zero, List.getElem?_cons_succ]; exact rfl) rfl rfl ?_; go_big_quiet_step (fail); refine wpQuiet_nil ?_) | (refine Mix.mix_s (by simp only [List.getElem?_toArray, List.getElem?_cons_zero, List.getElem?_cons_succ]; exact rfl) rfl rfl ?_; go_big_quiet_step (fail); refine wpQuiet_nil ?_))
        intro f0
        refine Mix.wpX_world fun w6 hw6 => ?_
        have m6 := M5.out.drewN f0
        rw [← hw6] at m6
        have M6 := hid m6
        clear hw6 m6 M5 x2 x3 x4 x5
        obtain ⟨i0, hi, hz0, hz1, hz2⟩ := info_parts Try.infoU64
        obtain ⟨ip0, ip1, ip2, ip3, ip4⟩ := info_parts (show (Try.prog.info? 52).map (fun i => (i.zero, i.size, i.bytes)) = some (some (.pointer none), 1, 8) by kernel_rfl)
        obtain ⟨iu0, iu1, iu2, iu3, iu4⟩ := info_parts Try.infoU64
        obtain ⟨ii0, ii1, ii2, ii3, ii4⟩ := info_parts (show (Try.prog.info? 3).map (fun i => (i.zero, i.size, i.bytes)) = some (some (.int .i64 0), 1, 8) by kernel_rfl)
        have BW0 : ∀ W : World, (Instr.buildSlice 48 1 #[(0, .pointer (some ⟨g, 0, none⟩))]).run Try.prog W = .ok (.slice (some ⟨W.heap.size, 0, none⟩) 1 1) (W.alloc (.cells #[.pointer (some ⟨g, 0, none⟩)] 52)) := fun W => by go_simp
        have BW1 : ∀ W : World, (Instr.buildSlice 40 1 #[(0, .int .u64 ((gp.length : Int) + 1))]).run Try.prog W = .ok (.slice (some ⟨W.heap.size, 0, none⟩) 1 1) (W.alloc (.cells #[.int .u64 ((gp.length : Int) + 1)] 22)) := fun W => by go_simp
        have BW2 : ∀ W : World, (Instr.buildSlice 49 1 #[(0, .int .i64 0)]).run Try.prog W = .ok (.slice (some ⟨W.heap.size, 0, none⟩) 1 1) (W.alloc (.cells #[.int .i64 0] 3)) := fun W => by go_simp
        have BW3 := BW2
        refine Mix.wpX_apps (fuel := 12) w.heap.size (chainsQ (.slice Ap gp.length cp) (.slice Av gp.length cv) (.slice As gp.length cs) (.slice Ao gp.length co) gp.length (gp.map Prod.fst) (gp.map fun y => y.2.v) x.st x.ot g ((gp.length : Int) + 1) 9 10 105 106 16 17 112 113 22 23 118 119 28 29 124 125) _ w6 (by kernel_rfl) (by rfl) (fun k hk => ?_) (by show ([105, 106, 112, 113, 118, 119, 124, 125] : List Nat).Nodup; decide) ?_ (M6.out.toJ g _ _ _ _ _ _ _ _ _ _ _ _ _ _ _ _ _) ?_
        · refine ⟨by rw [(HS.out k).1 hk]; exact Blk.lt (M6.out.each 5 _ rfl), fun i c hc hb => ?_⟩
          obtain ⟨hi4, r, hr, rfl⟩ := chains_at (B := w.heap.size) (p := p) (cb := cb) (qb := qb) (X := X) (n := n) (lv := lv) (vr := .slice Ar x.rs.length cr) (vl := .slice Al x.pl.length cl) (s := x.s) (rs := x.rs) (pl := x.pl) (gq := gq) (gp := gp ++ [(g, ⟨t, (gp.length : Int) + 1, 0, 0, 4, 0⟩)]) hc
          exact M6.out.apart 5 i _ _ rfl hr (by omega) k ((HS.out k).1 hk) hb
        · intro i c hc
          have hi4 := (List.getElem?_eq_some_iff.1 hc).1
          match i, hi4, hc with
          | 0, _, hc =>
            obtain rfl := Option.some.inj hc
            exact ⟨⟨_, _, 48, rfl, rfl, rfl, rfl, rfl, rfl, BW0⟩, ⟨_, rfl, rfl, rfl, _, 48, ip0, _, 8, rfl, Try.underlying48, ip1, ip2, ip3, ip4, rfl, by show (gp.length + 1) * 8 ≤ _; omega, rfl, rfl⟩, Nat.le_of_ble_eq_true rfl, Nat.le_of_ble_eq_true rfl, rfl, by show gp.length + 1 ≤ maxLen; unfold maxLen; omega⟩
          | 1, _, hc =>
            obtain rfl := Option.some.inj hc
            exact ⟨⟨_, _, 40, rfl, rfl, rfl, rfl, rfl, rfl, BW1⟩, ⟨_, rfl, rfl, rfl, _, 40, iu0, _, 8, rfl, Try.underlying40, iu1, iu2, iu3, iu4, rfl, by show (gp.length + 1) * 8 ≤ _; omega, rfl, rfl⟩, Nat.le_of_ble_eq_true rfl, Nat.le_of_ble_eq_true rfl, rfl, by show gp.length + 1 ≤ maxLen; unfold maxLen; omega⟩
          | 2, _, hc =>
            obtain rfl := Option.some.inj hc
            exact ⟨⟨_, _, 49, rfl, rfl, rfl, rfl, rfl, rfl, BW2⟩, ⟨_, rfl, rfl, rfl, _, 49, ii0, _, 8, rfl, Try.underlying49, ii1, ii2, ii3, ii4, rfl, by show (gp.length + 1) * 8 ≤ _; omega, rfl, rfl⟩, Nat.le_of_ble_eq_true rfl, Nat.le_of_ble_eq_true rfl, rfl, by show gp.length + 1 ≤ maxLen; unfold maxLen; omega⟩
          | 3, _, hc =>
            obtain rfl := Option.some.inj hc
            exact ⟨⟨_, _, 49, rfl, rfl, rfl, rfl, rfl, rfl, BW3⟩, ⟨_, rfl, rfl, rfl, _, 49, ii0, _, 8, rfl, Try.underlying49, ii1, ii2, ii3, ii4, rfl, by show (gp.length + 1) * 8 ≤ _; omega, rfl, rfl⟩, Nat.le_of_ble_eq_true rfl, Nat.le_of_ble_eq_true rfl, rfl, by show gp.length + 1 ≤ maxLen; unfold maxLen; omega⟩
        · intro s UB UA w7 _ _ J
          have hM := fun j0 j1 j2 j3 => M6.out.stored4 J j0 j1 j2 j3
          have hX7 := (M6.out.rows4 J).each 5 _ rfl
          obtain ⟨A0, k0, e0, _⟩ := own_slice ((J.each 0 _ rfl).2.2 rfl)
          obtain ⟨A1, k1, e1, _⟩ := own_slice ((J.each 1 _ rfl).2.2 rfl)
          obtain ⟨A2, k2, e2, _⟩ := own_slice ((J.each 2 _ rfl).2.2 rfl)
          obtain ⟨A3, k3, e3, _⟩ := own_slice ((J.each 3 _ rfl).2.2 rfl)
          rw [e0, e1, e2, e3] at hM
          have HM := hid hM
          have x2 : w7.cell? ⟨X, 2, none⟩ = some (.slice Ap gp.length cp) := Blk.cell hX7 2
          have x3 : w7.cell? ⟨X, 3, none⟩ = some (.slice Av gp.length cv) := Blk.cell hX7 3
          have x4 : w7.cell? ⟨X, 4, none⟩ = some (.slice As gp.length cs) := Blk.cell hX7 4
          have x5 : w7.cell? ⟨X, 5, none⟩ = some (.slice Ao gp.length co) := Blk.cell hX7 5
          have fx2 := Blk.free hX7 2
          have fx3 := Blk.free hX7 3
          have fx4 := Blk.free hX7 4
          have fx5 := Blk.free hX7 5
          simp only [chainsQ, Mix.slotsOf, Mix.putL, Act.put, Nat.zero_add, Nat.reduceAdd, e0, e1, e2, e3, List.setIfInBounds_toArray, List.set_cons_succ, List.set_cons_zero]
          clear hM hX7 J e0 e1 e2 e3 BW0 BW1 BW2 BW3
          refine Mix.wpX_prefix (fuel := 0) (by kernel_rfl) [30, 31, 32, 33, 34, 35, 36, 37, 38, 39, 40, 41] _ _ _ (by kernel_rfl) ?_
          iterate 2 (refine Mix.mix_q (by simp only [List.getElem?_toArray, List.getElem?_cons_zero, List.getElem?_cons_succ]; exact rfl) rfl ?_; go_big_quiet_step (fail); refine wpQuiet_nil ?_)
          refine Mix.mix_e (by simp only [List.getElem?_toArray, List.getElem?_cons_zero, List.getElem?_cons_succ]; exact rfl) rfl fun Y0 hY0 => ?_
          obtain ⟨j0, rfl⟩ := hY0
          go_wp2_with fail
          iterate 2 (refine Mix.mix_q (by simp only [List.getElem?_toArray, List.getElem?_cons_zero, List.getElem?_cons_succ]; exact rfl) rfl ?_; go_big_quiet_step (fail); refine wpQuiet_nil ?_)
          refine Mix.mix_e (by simp only [List.getElem?_toArray, List.getElem?_cons_zero, List.getElem?_cons_succ]; exact rfl) rfl fun Y1 hY1 => ?_
          obtain ⟨j1, rfl⟩ := hY1
          go_wp2_with fail
          iterate 2 (refine Mix.mix_q (by simp only [List.getElem?_toArray, List.getElem?_cons_zero, List.getElem?_cons_succ]; exact rfl) rfl ?_; go_big_quiet_step (fail); refine wpQuiet_nil ?_)
          refine Mix.mix_e (by simp only [List.getElem?_toArray, List.getElem?_cons_zero, List.getElem?_cons_succ]; exact rfl) rfl fun Y2 hY2 => ?_
          obtain ⟨j2, rfl⟩ := hY2
          go_wp2_with fail
          iterate 2 (refine Mix.mix_q (by simp only [List.getElem?_toArray, List.getElem?_cons_zero, List.getElem?_cons_succ]; exact rfl) rfl ?_; go_big_quiet_step (fail); refine wpQuiet_nil ?_)
          refine Mix.mix_e (by simp only [List.getElem?_toArray, List.getElem?_cons_zero, List.getElem?_cons_succ]; exact rfl) rfl fun Y3 hY3 => ?_
          obtain ⟨j3, rfl⟩ := hY3
          go_wp2_with fail
          intro j4
          refine Mix.wpX_done (by kernel_rfl) ?_
          intro j5
          clear x2 x3 x4 x5 fx2 fx3 fx4 fx5
          go_wp2_with fail
          go_roundw
          case rel => exact ⟨j + 1, by omega, by go_num, _, _, _, _, _, _, _, _, _, _, (show ({ x with ps := x.ps ++ [⟨t, (gp.length : Int) + 1, 0, 0, 4, 0⟩], st := x.st ++ [0], ot := x.ot ++ [0] } : Xq).pull = none from HN.out), (H.out.began (by omega) ⟨t0, t1⟩ ((HM.out j0 j1 j2 j3).drewN (j4 + j5))).mono (M' := 3 * (j + 1)) (by omega) (by omega)⟩
          case measure => simp [intOf]; omega
      have e0 : (ev.d % 4 == 0) = false := by rw [beq_eq_false_iff_ne]; exact h0
      by_cases h1 : ev.d % 4 = 1
      · have e1 : (ev.d % 4 == 1) = true := by rw [beq_iff_eq]; exact h1
        clear h0 h1
        as_aux_lemma =>
          clear x1 x2 x3 x4 x5
          go_wp2_with fail
          refine (pull_any H.out HN.out).mono ?_
          rintro e w2 ⟨lv', g, q, x', hfin, hpn, hinv, eps, est, eot, ers, hl1, hl2, hm, hcase⟩
          have HM := hid hm
          have HP := hid (⟨hfin, hpn, hinv, eps, est, eot, ers, hl1, hl2⟩ : Past n x x' q)
          have x1 : w2.cell? ⟨X, 1, none⟩ = some (.pointer (some ⟨qb, 0, none⟩)) := (hm.each 5 _ rfl).cell 1
          have x7 : w2.cell? ⟨X, 7, none⟩ = some (.slice Al x.pl.length cl) := (hm.each 5 _ rfl).cell 7
          clear hm hfin hpn hinv eps est eot ers hl1 hl2
          rcases hcase with ⟨rfl, hpl, hz⟩ | ⟨v, rfl, hpl⟩
          · have HPL := hid hpl
            clear hpl hz x1 x7
            go_wp2_with fail
            go_roundw
            case rel => exact ⟨j + 1, by omega, by go_num, _, _, _, _, _, _, _, _, _, _, HP.out.pull, (H.out.past HP.out (by omega) (vl' := .slice Al x.pl.length cl) (by rw [HPL.out]; exact HM.out)).mono (by omega) (by omega)⟩
            case measure => simp [intOf]; omega
          · have HPL := hid hpl
            have hlgj := H.out.lg
            have hplj := H.out.inv.le
            have hrsj := H.out.rm
            clear hpl
            obtain ⟨i0, hi, hz0, hz1, hz2⟩ := info_parts Try.infoU64
            have hown1 : w2.ownsRow w.heap.size 22 1 (.slice Al x.pl.length cl) x.pl.length (u64V x.pl) := HM.out.each 7 _ rfl
            go_wp2_with (at_builtin; refine wpList_app _ rfl (.tmp 147) (.tmp 149) 40 rfl w.heap.size 22 i0 _ 1 8 Try.underlying40 hi hz0 hz1 hz2 rfl (by decide) _ _ _ rfl (hown1.alloc _) ⟨w2.heap.size, 0, none⟩ 1 1 [.int .u64 v] rfl rfl ?c1 ?c2 (by decide) ?c3 ?c4 ?c5 ?c6)
            case c1 => intro j' u hu; rw [addr_add0]; exact ((Blk.new w2 22 #[.int .u64 v]).cell j').trans (by simpa using hu)
            case c2 => intro u hu; simp at hu; subst hu; rfl
            case c3 => unfold maxLen; omega
            case c4 => omega
            case c5 => exact (HM.out.alloc _).bz
            case c6 =>
              intro v' w6 hown' hgrow hfresh
              obtain ⟨A6, c6, hv6, _⟩ := own_slice hown'
              subst hv6
              have t6 := (HM.out.alloc (.cells #[.int .u64 v] 22)).app (i := 7) (n' := (x.pl ++ [v]).length) (xs' := u64V (x.pl ++ [v])) rfl (by simpa [u64V] using hown') hgrow hfresh
              have M7 := hid (t6.put (i := 5) rfl 7 (.slice A6 (x.pl.length + 1) c6))
              have cX : w6.cell? ⟨X, 7, none⟩ = some (.slice Al x.pl.length cl) := Blk.cell (t6.each 5 _ rfl) 7
              have fX := Blk.free (t6.each 5 _ rfl) 7
              clear x1 x7 hown' hgrow hfresh t6
              go_wp2_with fail
              clear cX fX
              go_roundw
              case rel => exact ⟨j + 1, by omega, by go_num, _, _, _, _, _, _, _, _, _, _, HP.out.pull, (H.out.past HP.out (by omega) (by rw [HPL.out]; exact M7.out)).mono (by omega) (by omega)⟩
              case measure => simp [intOf]; omega
      have e1 : (ev.d % 4 == 1) = false := by rw [beq_eq_false_iff_ne]; exact h1
      clear h0 h1
      as_aux_lemma =>
        by_cases hm : gp.length = 0
        · have d2 : decide ((0 : Int) < (gp.length : Int)) = false := decide_eq_false (by omega)
          have d2' : decide (0 < gp.length) = false := decide_eq_false (by omega)
          have HM := hid hm
          clear hm
          go_wp2_with fail
          go_roundw
          case rel => exact ⟨j + 1, by omega, by go_num, _, _, _, _, _, _, _, _, _, _, HN.out, H.out.mono (by omega) (by omega)⟩
          case measure => simp [intOf]; omega
        · have d2 : decide ((0 : Int) < (gp.length : Int)) = true := decide_eq_true (by omega)
          have d2' : decide (0 < gp.length) = true := decide_eq_true (by omega)
          have i0 := Int.emod_nonneg ev.w (show (gp.length : Int) ≠ 0 by omega)
          have i1 := Int.emod_lt_of_pos ev.w (show (0 : Int) < (gp.length : Int) by omega)
          obtain ⟨k, hk⟩ := Int.eq_ofNat_of_zero_le i0
          obtain ⟨⟨g, q⟩, hgk⟩ : ∃ y, gp[k]? = some y := ⟨_, List.getElem?_eq_getElem (by omega)⟩
          have HK := hid hk
          have HGK := hid hgk
          clear hk hgk i0 i1
          go_wp2_with fail
          refine Mix.wp_region_mix (fun _ => True) (fun i => ([0, 0, 0, 0, 0, 0, 0, 0, 0, 0, 0, 0, 0, 2] : List Nat).getD i 0) [0, 1, 2, 3, 4, 5, 6, 7, 8, 9, 10, 11, 12, 13] (by kernel_rfl) (by kernel_rfl) ?_
          repeat (first | (refine Mix.mix_q (by simp only [List.getElem?_toArray, List.getElem?_cons_zero, List.getElem?_cons_succ]; exact rfl) rfl ?_; go_big_quiet_step ((go_at_call 21; exact index_q ev.w gp.length _ EK4.out (by omega) (by omega) _)); refine wpQuiet_nil ?_) | (refine Mix.mix_p (by simp only [List.getElem?_toArray, List.getElem?_cons_zero, List.getElem?_cons_succ]; exact rfl) rfl rfl ?_; go_big_quiet_step (fail); refine wpQuiet_nil ?_))
          refine Mix.mix_e (by simp only [List.getElem?_toArray, List.getElem?_cons_zero, List.getElem?_cons_succ]; exact rfl) rfl fun W hW => ?_
          obtain ⟨n1, rfl⟩ := hW
          go_wp2_with fail
          rw [HK.out]
          by_cases hph : q.ph = 0
          · refine (rstep_idle (H.out.drewN n1) HGK.out hph).mono ?_
            rintro e w2 ⟨bb, rfl, h2⟩
            have H2 := hid h2
            clear h2 hph
            go_wp2_with fail
            intro n2
            go_wp2_with fail
            go_roundw
            case rel => exact ⟨j + 1, by omega, by go_num, _, _, _, _, _, _, _, _, _, _, HN.out, (H2.out.drewN n2).mono (by omega) (by omega)⟩
            case measure => simp [intOf]; omega
          · refine (rstep_live (H.out.drewN n1) HGK.out hph (by omega)).mono ?_
            rintro e w2 ⟨bb, rfl, lv', vr', h2⟩
            have H2 := hid h2
            clear h2 hph
            go_wp2_with fail
            intro n2
            go_wp2_with fail
            go_roundw
            case rel => exact ⟨j + 1, by omega, by go_num, _, _, _, _, _, _, _, _, _, _, (show (x.after n k q).pull = none from HN.out), (H2.out.drewN n2).mono (by omega) (by omega)⟩
            case measure => simp [intOf]; omega
    · obtain rfl : j = len := by omega
      have d1 : decide (j < j) = false := decide_eq_false (by omega)
      obtain ⟨L, hL⟩ : ∃ L, L = gp.length := ⟨_, rfl⟩
      have hLb : L ≤ 600 := by rw [hL]; have := hR.pm; omega
      have HLL := hid hL.symm
      have H := hid hR
      clear hL hR
      as_aux_lemma =>
        go_wp2_with fail
        go_loopw [12, 13] (fun c k wr => ∃ j : Nat, j ≤ L ∧ k = .int .i64 j ∧ DrTwo p cb qb X n L (700 + 8 * j) j c w wr) (fun _ k _ => L - (intOf k).toNat)
        case atStart => exact ⟨0, Nat.zero_le _, rfl, _, _, _, _, _, _, _, _, _, _, HN.out, HLL.out, fun i hi => absurd hi (Nat.not_lt_zero i), by simp, H.out.mono (by omega) (by omega)⟩
        case round =>
          obtain ⟨k, hk, rfl, lv, vp, vv, vs, vo, vr, vl, x, gp, gq, hxn, hgl, hidle, rfl, hR⟩ := hrel
          obtain ⟨Ap, cp, hvp, hcp⟩ := own_slice (hR.mem.each 0 _ rfl)
          subst hvp
          have x2 : wr.cell? ⟨X, 2, none⟩ = some (.slice Ap gp.length cp) := (hR.mem.each 5 _ rfl).cell 2
          rw [hgl] at x2
          have hcn : (gp.take k).countP PuAt.fits ≤ k := Nat.le_trans List.countP_le_length (List.length_take_le _ _)
          have HN := hid hxn
          have HGL := hid hgl
          have HID := hid hidle
          have H := hid hR
          clear hxn hgl hidle hR
          by_cases hlt : k < L
          · have d5 : decide (k < L) = true := decide_eq_true hlt
            have d5' : decide ((k : Int) < (L : Int)) = true := decide_eq_true (by omega)
            obtain ⟨c0, hc0⟩ : ∃ c0, c0 = (gp.take k).countP PuAt.fits := ⟨_, rfl⟩
            rw [← hc0] at hcn ⊢
            have HC0 := hid hc0
            clear hc0
            go_wp2_with fail
            clear x2
            go_loopw [14] (fun i wr => ∃ j : Nat, i = .int .i64 j ∧ DrIn p cb qb X n L (700 + 8 * k + j) k c0 j w wr) (fun i _ => 8 - (intOf i).toNat)
            case atStart =>
              obtain ⟨⟨g, q⟩, hg⟩ : ∃ y, gp[k]? = some y := ⟨_, List.getElem?_eq_getElem (by rw [HGL.out]; exact hlt)⟩
              exact ⟨0, rfl, _, _, _, _, _, _, _, _, _, _, g, q, HN.out, HGL.out, HID.out, HC0.out, hg, left_le _ _ _, H.out⟩
            case round =>
              obtain ⟨j, rfl, lv, vp, vv, vs, vo, vr, vl, x, gp, gq, g, q, hxn, hgl, hidle, hc0, hg, hleft, hR⟩ := hrel
              obtain ⟨gv, cv, hvp, hkm, hcv, kv, fv⟩ := own_at (hR.mem.each 0 _ rfl) (ptrV_at (k := k) (g := g) (by simp [hg]))
              subst hvp
              have x2 : wr.cell? ⟨X, 2, none⟩ = some (.slice (some ⟨gv, 0, none⟩) gp.length cv) := (hR.mem.each 5 _ rfl).cell 2
              rw [hgl] at x2
              have hq := hR.mem.each (9 + k) _ (push_at hg)
              have Hq := hid hq
              have hj8 : j ≤ 6 := by omega
              have d8 : decide ((j : Int) < 8) = true := decide_eq_true (by omega)
              have HN := hid hxn
              have HGL := hid hgl
              have HID := hid hidle
              have HC0 := hid hc0
              have HG := hid hg
              have HL := hid hleft
              have H := hid hR
              clear hxn hgl hidle hc0 hg hleft hR hq
              by_cases hph : q.ph = 0
              · have bph : (q.ph != 0) = false := by rw [bne_eq_false_iff_eq]; exact hph
                have HPH := hid hph
                have her : q.er = 0 ∨ q.er = 14 := by
                  rcases (H.out.ok HG.out).1.er with ⟨e, _⟩ | ⟨_, e⟩
                  · exact absurd hph e
                  · exact e
                clear hph
                go_wp2_with fail
                refine (unext_any qb g _ q Hq.out).mono ?_
                rintro e w' ⟨rfl, rfl⟩
                go_wp2_with fail
                refine (ures_any qb g _ q Hq.out).mono ?_
                rintro e w' ⟨rfl, rfl⟩
                rw [if_pos HPH.out]
                have hnew : ∀ i, i < k + 1 → ∃ g q, gp[i]? = some (g, q) ∧ q.ph = 0 := by
                  intro i hi
                  by_cases e : i = k
                  · subst e; exact ⟨g, q, HG.out, HPH.out⟩
                  · exact HID.out i (by omega)
                have HNEW := hid hnew
                have htk : gp.take (k + 1) = gp.take k ++ [(g, q)] := by
                  rw [List.take_add_one, HG.out]; rfl
                have HTK := hid htk
                clear hnew htk
                rcases her with her | her
                · have HER := hid her
                  rw [her]
                  clear her x2 kv fv
                  go_wp2_with fail
                  go_roundw
                  case rel => exact ⟨k + 1, by omega, by go_num, _, _, _, _, _, _, _, _, _, _, HN.out, HGL.out, HNEW.out, by rw [HTK.out, List.countP_append, ← HC0.out]; simp [PuAt.fits, HER.out], H.out.mono (by omega) (by omega)⟩
                  case measure => simp [intOf]; omega
                · have HER := hid her
                  rw [her]
                  clear her x2 kv fv
                  go_wp2_with fail
                  go_roundw
                  case rel => exact ⟨k + 1, by omega, by go_num, _, _, _, _, _, _, _, _, _, _, HN.out, HGL.out, HNEW.out, by rw [HTK.out, List.countP_append, ← HC0.out]; simp [PuAt.fits, HER.out], H.out.mono (by omega) (by omega)⟩
                  case measure => simp [intOf]; omega
              · have bph : (q.ph != 0) = true := by rw [bne_iff_ne]; exact hph
                have HPH := hid hph
                clear hph
                go_wp2_with fail
                refine (unext_any qb g _ q Hq.out).mono ?_
                rintro e w' ⟨rfl, rfl⟩
                go_wp2_with fail
                refine (rstep_live H.out HG.out HPH.out (by omega)).mono ?_
                rintro e w2 ⟨bb, rfl, lv', vr', h2⟩
                have H2 := hid h2
                clear h2 x2 kv fv
                go_wp2_with fail
                have hdec := (inv_pstep H.out.inv (H.out.ps_at HG.out) HPH.out (by have := H.out.rm; have := H.out.lg; omega)).2.2.2
                have HDEC := hid hdec
                clear hdec
                go_roundw
                case rel => exact ⟨j + 1, by go_num, _, _, _, _, _, _, _, _, _, _, g, (pustep x.s (lawQ n) q).2, (show (x.after n k q).pull = none from HN.out), by rw [List.length_set]; exact HGL.out, fun i hi => by rw [List.getElem?_set_ne (by omega)]; exact HID.out i hi, by rw [HC0.out, List.take_set_of_le (Nat.le_refl k)], by simp [HGL.out, hlt], drain_left HDEC.out HL.out, H2.out⟩
                case measure => simp [intOf]; omega
          · obtain rfl : k = L := by omega
            have d5 : decide (k < k) = false := decide_eq_false (by omega)
            have d5' : decide ((k : Int) < (k : Int)) = false := decide_eq_false (by omega)
            have hall : ∀ q ∈ x.ps, q.ph = 0 := all_idle H.out.ps HGL.out HID.out
            have hcnt : (gp.take k).countP PuAt.fits = x.rs.length := by
              rw [List.take_of_length_le (by rw [HGL.out]; exact Nat.le_refl _), ← H.out.inv.cnt, H.out.ps]
              exact count_idle (by rw [← H.out.ps]; exact hall)
            rw [hcnt]
            obtain ⟨Ar, cr, hvr, hcr⟩ := own_slice (H.out.mem.each 6 _ rfl)
            obtain ⟨Al, cl, hvl, hcl⟩ := own_slice (H.out.mem.each 7 _ rfl)
            subst hvr hvl
            have x1 : wr.cell? ⟨X, 1, none⟩ = some (.pointer (some ⟨qb, 0, none⟩)) := (H.out.mem.each 5 _ rfl).cell 1
            have x6 : wr.cell? ⟨X, 6, none⟩ = some (.slice Ar x.rs.length cr) := (H.out.mem.each 5 _ rfl).cell 6
            have x7 : wr.cell? ⟨X, 7, none⟩ = some (.slice Al x.pl.length cl) := (H.out.mem.each 5 _ rfl).cell 7
            have hle := H.out.inv.le
            have hrm := H.out.rm
            have hlg := H.out.lg
            have HIDLE := hid hall
            have HHT := hid (show qT x.s (lawQ n) = x.rs.length from H.out.inv.hT)
            have HHH := hid (show qH x.s (lawQ n) = x.pl.length from H.out.inv.hH)
            have bl : (((x.rs.length - x.pl.length : Nat) : Int) != (x.rs.length : Int) - (x.pl.length : Int)) = false := by rw [bne_eq_false_iff_eq]; omega
            have HQM := hid (show QueueM w.heap.size wr p cb qb lv x.s (lawQ n) (pullV gq) from H.out.mem.each 4 _ rfl)
            clear hall hcnt hcn hlt
            go_wp2_with fail
            go_quiet ((go_at_call 17; exact qlen_q w.heap.size p cb qb lv x.s (lawQ n) (pullV gq) wr HQM.out x.pl.length x.rs.length HHH.out HHT.out hle (by omega) _))
            go_wp2_with fail
            have H1 := hid (H.out.drewN nq)
            clear H HQM HHH HHT x1 x6 x7 bl d5 d5'
            obtain ⟨Mx, hMx⟩ : ∃ Mx, Mx = 700 + 8 * k := ⟨_, rfl⟩
            have H := hid (H1.out.mono (M' := Mx) (by omega) (by omega))
            have hMx2 : Mx ≤ 8000 := by omega
            clear H1 hMx
            go_loopw [] (fun wr => DrLast p cb qb X n Mx (.slice Ap gp.length cp) vv vs vo (.slice Ar x.rs.length cr) x gp w wr) (fun wr => x.rs.length - pulledN X wr)
            case atStart => exact ⟨_, _, _, _, HN.out, rfl, rfl, H.out.mono (M' := Mx + 3 * x.pl.length) (by omega) (by omega)⟩
            case round =>
              obtain ⟨lw, vl, y, gr, hyn, hyp, hyr, hR⟩ := hrel
              obtain ⟨Al, cl, hvl, hcl⟩ := own_slice (hR.mem.each 7 _ rfl)
              subst hvl
              have hle := hR.inv.le
              rw [hyr] at hle
              have hrx := H.out.rm
              have hlx := H.out.lg
              have x1 : wr.cell? ⟨X, 1, none⟩ = some (.pointer (some ⟨qb, 0, none⟩)) := (hR.mem.each 5 _ rfl).cell 1
              have x7 : wr.cell? ⟨X, 7, none⟩ = some (.slice Al y.pl.length cl) := (hR.mem.each 5 _ rfl).cell 7
              have HR := hid hR
              have HY := hid hyn
              have HYP := hid hyp
              have HYR := hid hyr
              have C7 := hid x7
              clear hR hyn hyp hyr
              by_cases hlt : y.pl.length < x.rs.length
              · have d5 : decide (y.pl.length < x.rs.length) = true := decide_eq_true hlt
                have d5' : decide ((y.pl.length : Int) < (x.rs.length : Int)) = true := decide_eq_true (by omega)
                go_wp2_with fail
                clear x1 x7
                refine (pull_any HR.out HY.out).mono ?_
                rintro e w2 ⟨lv', g, q, x', hfin, hpn, hinv, eps, est, eot, ers, hl1, hl2, hm, hcase⟩
                have HM := hid hm
                have HP := hid (⟨hfin, hpn, hinv, eps, est, eot, ers, hl1, hl2⟩ : Past n y x' q)
                have x1 : w2.cell? ⟨X, 1, none⟩ = some (.pointer (some ⟨qb, 0, none⟩)) := (hm.each 5 _ rfl).cell 1
                have x7 : w2.cell? ⟨X, 7, none⟩ = some (.slice Al y.pl.length cl) := (hm.each 5 _ rfl).cell 7
                clear hm hfin hpn hinv eps est eot ers hl1 hl2
                rcases hcase with ⟨rfl, hpl, hz⟩ | ⟨v, rfl, hpl⟩
                · exfalso
                  exact drain_some HP.out.inv HP.out.pull (by rw [HP.out.ps, HYP.out]; exact HIDLE.out) (by rw [hpl, HP.out.rs, HYR.out]; exact hlt) hz
                · have HPL := hid hpl
                  clear hpl
                  obtain ⟨i0, hi, hz0, hz1, hz2⟩ := info_parts Try.infoU64
                  have hown1 : w2.ownsRow w.heap.size 22 1 (.slice Al y.pl.length cl) y.pl.length (u64V y.pl) := HM.out.each 7 _ rfl
                  go_wp2_with (at_builtin; refine wpList_app _ rfl (.tmp 237) (.tmp 239) 40 rfl w.heap.size 22 i0 _ 1 8 Try.underlying40 hi hz0 hz1 hz2 rfl (by decide) _ _ _ rfl (hown1.alloc _) ⟨w2.heap.size, 0, none⟩ 1 1 [.int .u64 v] rfl rfl ?c1 ?c2 (by decide) ?c3 ?c4 ?c5 ?c6)
                  case c1 => intro j' u hu; rw [addr_add0]; exact ((Blk.new w2 22 #[.int .u64 v]).cell j').trans (by simpa using hu)
                  case c2 => intro u hu; simp at hu; subst hu; rfl
                  case c3 => unfold maxLen; omega
                  case c4 => omega
                  case c5 => exact (HM.out.alloc _).bz
                  case c6 =>
                    intro v' w6 hown' hgrow hfresh
                    obtain ⟨A6, c6, hv6, _⟩ := own_slice hown'
                    subst hv6
                    have t6 := (HM.out.alloc (.cells #[.int .u64 v] 22)).app (i := 7) (n' := (y.pl ++ [v]).length) (xs' := u64V (y.pl ++ [v])) rfl (by simpa [u64V] using hown') hgrow hfresh
                    have M7 := hid (t6.put (i := 5) rfl 7 (.slice A6 (y.pl.length + 1) c6))
                    have cX : w6.cell? ⟨X, 7, none⟩ = some (.slice Al y.pl.length cl) := Blk.cell (t6.each 5 _ rfl) 7
                    have fX := Blk.free (t6.each 5 _ rfl) 7
                    clear x1 x7 hown' hgrow hfresh t6
                    go_wp2_with fail
                    clear cX fX
                    go_roundw
                    case rel => exact ⟨_, _, _, _, HP.out.pull, by rw [HP.out.ps]; exact HYP.out, by rw [HP.out.rs]; exact HYR.out, (HR.out.past HP.out (by omega) (by rw [HPL.out]; exact M7.out)).mono (by rw [HPL.out]; simp; omega) (by rw [HPL.out]; simp; omega)⟩
                    case measure =>
                      have m1 := pulledN_at C7.out
                      have m2 := pulledN_at (Blk.cell (M7.out.each 5 _ rfl) 7)
                      rw [m1, m2]
                      omega
              · have heq : y.pl.length = x.rs.length := by omega
                have d5 : decide (y.pl.length < x.rs.length) = false := decide_eq_false (by omega)
                have d5' : decide ((y.pl.length : Int) < (x.rs.length : Int)) = false := decide_eq_false (by omega)
                have HEQ := hid heq
                clear heq hlt
                go_wp2_with fail
                clear x1 x7
                refine (pull_any HR.out HY.out).mono ?_
                rintro e w2 ⟨lv', g, q, x', hfin, hpn, hinv, eps, est, eot, ers, hl1, hl2, hm, hcase⟩
                rcases hcase with ⟨rfl, hpl, hz⟩ | ⟨v, rfl, hpl⟩
                · have x6 : w2.cell? ⟨X, 6, none⟩ = some (.slice Ar x.rs.length cr) := (hm.each 5 _ rfl).cell 6
                  have x7 : w2.cell? ⟨X, 7, none⟩ = some (.slice Al y.pl.length cl) := (hm.each 5 _ rfl).cell 7
                  have h6 : w2.ownsRow w.heap.size 22 1 (.slice Ar x.rs.length cr) x.rs.length (u64V x.rs) := by
                    have h := hm.each 6 _ rfl
                    rw [HYR.out] at h
                    exact h
                  have S1 := hid (same_of_own (m := y.pl.length) (hm.each 7 _ rfl) (Nat.le_refl _))
                  have S2 := hid (same_of_own (m := x.rs.length) h6 (Nat.le_refl _))
                  have PR := hid (show y.pl.take y.pl.length = x.rs.take x.rs.length by
                    rw [List.take_length, List.take_length]
                    have h1 := HR.out.inv.pre
                    rw [HEQ.out, HYR.out, List.take_length] at h1
                    exact h1)
                  have hlen6 : x.rs.length < 1000000 := by omega
                  have hlen7 : y.pl.length < 1000000 := by rw [HEQ.out]; omega
                  have HM := hid hm
                  clear hm hfin hpn hinv eps est eot ers hl1 hl2 hpl hz h6 hle
                  go_wp2_with fail
                  go_quiet ((go_at_call 26; exact eqWords_q _ _ _ _ _ _ _ _ w2 S1.out S2.out (by first | exact hlen7 | exact hlen6) PR.out _))
                  go_wp2_with fail
                  go_ret
                  exact ⟨rfl, (HM.out.drewN nq).bel⟩
                · exfalso
                  have h1 := hinv.le
                  rw [hpl, ers, HYR.out] at h1
                  have h2 := HEQ.out
                  simp at h1
                  omega
end Go.Proofs.Ytpkjjlahmjijnaa
