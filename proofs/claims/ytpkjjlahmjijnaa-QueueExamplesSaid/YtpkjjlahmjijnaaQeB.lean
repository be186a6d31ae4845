/- QueueExamples: the walk. -/
import Derived.Test.YtpkjjlahmjijnaaQeA
import Derived.Test.YtpkjjlahmjijnaaFrame
namespace Go.Proofs.Ytpkjjlahmjijnaa
open Go.RowKit
set_option linter.unusedVariables false
set_option linter.unusedSimpArgs false
set_option linter.unusedSectionVars false

theorem qerr_freshX {n : Nat} (h1 : 1 ≤ n) (h2 : n ≤ 64) : qerr (List.replicate (n + 2) 0) 0 1 2 n = 0 := by
  have hz : ∀ c, lk (List.replicate (n + 2) (0 : Int)) c = 0 := by
    intro c
    simp only [lk, List.getD_eq_getElem?_getD, List.getElem?_replicate]
    split <;> rfl
  unfold qerr
  rw [List.length_replicate, if_neg (by omega), if_neg (fun e => e ⟨⟨by omega, by omega⟩, ⟨by omega, by omega⟩, by omega, by omega⟩), if_neg (by omega), if_neg]
  rintro ⟨j, _, hj, _⟩
  exact hj (hz j)
theorem exq_init {p cb qb : Nat} {w w' : World} (c : Ch (fun _ => False) w w') (hQ : QueueM w.heap.size w' p cb qb (.slice none 0 0) ⟨List.replicate 3 0, []⟩ (lawQ 1) (.pointer none)) (bp : w.heap.size ≤ p) (bc : w.heap.size ≤ cb) :
    ExQ w.heap.size p cb qb ⟨List.replicate 3 0, []⟩ none [] w w' := by
  have m0 := Mem.nil (w0 := w) (Nat.le_refl _) (Below.refl _ w)
  have m1 := m0.add (queueR w.heap.size p cb qb (.slice none 0 0) ⟨List.replicate 3 0, []⟩ (lawQ 1) (.pointer none)) c hQ (fun k hk => by
    rcases hk with (rfl | rfl | hk) | rfl
    · exact bp
    · exact bc
    · cases hk
    · exact hQ.bf)
  exact ⟨_, m1.add (pureR True) (Ch.refl _ _) trivial (fun k hk => hk.elim)⟩
theorem own_words {w : World} {B n c : Nat} {A : Option Addr} {xs : List Int} (h : w.ownsRow B 22 1 (.slice A n c) n (xs.map (Value.int .u64))) : SameWords w A n xs := by
  have hl : xs.length = n := by have := h.1; simpa using this
  refine ⟨hl, fun h0 => ?_⟩
  obtain ⟨g, cap, hv, _, _, _, hg⟩ := own_form h h0
  injection hv with hA _ _
  subst hA
  refine ⟨g, 0, rfl, fun i hi => ?_⟩
  have hc := h.cells (g := g) rfl i (.int .u64 (lk xs i)) (by simp [lk, show i < xs.length by omega])
  rw [addr_add0] at hc
  rw [Nat.zero_add]; exact hc
theorem eqw (A : Option Addr) (ca : Nat) (x : Int) (w : World) (h : SameWords w A 1 [x]) : Calls Try.prog 26 #[.slice A 1 ca, .slice (some ⟨w.heap.size, 0, none⟩) 1 1] (w.alloc (.cells #[.int .u64 x] 22)) fun e w' => e = .returned (.bool true) ∧ Ch (fun _ => False) w w' := by
  refine (eqWords_any A _ 1 ca 1 1 [x] [x] _ ⟨rfl, fun h0 => ?_⟩ ⟨rfl, fun _ => ⟨_, 0, rfl, fun i hi => ?_⟩⟩ (by decide)).mono ?_
  · obtain ⟨b, o, hb, hc⟩ := h.2 h0
    exact ⟨b, o, hb, fun i hi => (World.cell?_alloc_lt _ _ _ (block_lt_of_cell (hc i hi))).trans (hc i hi)⟩
  · obtain rfl : i = 0 := by omega
    exact (Blk.new w _ _).cell 0
  · rintro e w' ⟨rfl, n, rfl⟩
    exact ⟨by simp, ((Ch.refl _ w).alloc _).drewN n⟩
/-- Steps of a push, and of a pull. -/
def ups (s : BS) (q : Pu) : Nat → BS × Pu
  | 0 => (s, q)
  | c + 1 => pustep (ups s q c).1 (lawQ 1) (ups s q c).2
def lps (s : BS) (q : Pl) : Nat → BS × Pl
  | 0 => (s, q)
  | c + 1 => plstep (lps s q c).1 (lawQ 1) (lps s q c).2
/-- What the steps of the examples want of a push, of a pull. -/
abbrev uok (x : BS × Pu) : Prop := x.1.lg.length < 900 ∧ (0 ≤ x.2.t ∧ x.2.t < 16) ∧ (0 ≤ x.2.v ∧ x.2.v < 18446744073709551616) ∧ (0 ≤ x.2.fr ∧ x.2.fr < 18446744073709551616) ∧ (x.2.ph = 0 ∨ x.2.ph = 4 ∨ x.2.ph = 5 ∨ x.2.ph = 6 ∨ x.2.ph = 7)
abbrev lok (x : BS × Pl) : Prop := x.1.lg.length < 900 ∧ (0 ≤ x.2.t ∧ x.2.t < 16) ∧ (0 ≤ x.2.at' ∧ x.2.at' < 18446744073709551616) ∧ (x.2.ph = 0 ∨ x.2.ph = 19 ∨ x.2.ph = 20 ∨ x.2.ph = 21)
section
variable {B p cb qb k : Nat} {s : BS} {gq : Option (Nat × Pl)} {gp : List (Nat × Pu)} {w0 w : World}
theorem ExQ.us {g : Nat} {q : Pu} (c : Nat) (h : ExQ B p cb qb (ups s q c).1 gq gp w0 w) (hp : gp[k]? = some (g, (ups s q c).2)) (ho : uok (ups s q c)) {ph : Int} (hph : (ups s q c).2.ph = ph) {b : Bool} (hb : ((ups s q (c + 1)).2.ph == 0) = b) :
    Calls Try.prog 28 #[.pointer (some ⟨g, 0, none⟩)] w fun e w' => e = .returned (.tuple #[.int .u8 ph, .bool b]) ∧ ExQ B p cb qb (ups s q (c + 1)).1 gq (gp.set k (g, (ups s q (c + 1)).2)) w0 w' := by
  subst hph hb
  exact h.ustep ho.1 hp ho.2.1 ho.2.2.1 ho.2.2.2.1 ho.2.2.2.2
theorem ExQ.ls {g : Nat} {q : Pl} (c : Nat) (h : ExQ B p cb qb (lps s q c).1 (some (g, (lps s q c).2)) gp w0 w) (ho : lok (lps s q c)) {ph : Int} (hph : (lps s q c).2.ph = ph) {b : Bool} (hb : ((lps s q (c + 1)).2.ph == 0) = b) :
    Calls Try.prog 30 #[.pointer (some ⟨g, 0, none⟩)] w fun e w' => e = .returned (.tuple #[.int .u8 ph, .bool b]) ∧ ExQ B p cb qb (lps s q (c + 1)).1 (some (g, (lps s q (c + 1)).2)) gp w0 w' := by
  subst hph hb
  exact h.lstep ho.1 ho.2.1 ho.2.2.1 ho.2.2.2
end
def xa0 : BS := ⟨List.replicate 3 0, []⟩
def xp (t v : Int) : Pu := ⟨t, v, 0, 0, 4, 0⟩
def xl (s : BS) : Pl := ⟨2, qH s (lawQ 1), 0, 19, 0, false⟩
def xa : BS := (ups xa0 (xp 0 7) 3).1
def qa : Pu := (ups xa0 (xp 0 7) 3).2
def xb : BS := (ups xa (xp 1 8) 3).1
def qb1 : Pu := (ups xa (xp 1 8) 3).2
def xc : BS := (lps xb (xl xb) 1).1
def lc : Pl := (lps xb (xl xb) 1).2
def xd : BS := (ups xc qa 1).1
def qd : Pu := (ups xc qa 1).2
def xe : BS := (lps xd (xl xd) 3).1
def le : Pl := (lps xd (xl xd) 3).2
def xf : BS := (ups xe (xp 0 1) 1).1
def qf : Pu := (ups xe (xp 0 1) 1).2
def xg : BS := (ups xf (xp 1 2) 4).1
def qg : Pu := (ups xf (xp 1 2) 4).2
def xh : BS := (lps xg (xl xe) 3).1
def lh : Pl := (lps xg (xl xe) 3).2
def xi : BS := (ups xh qf 1).1
def qi : Pu := (ups xh qf 1).2
set_option maxRecDepth 100000 in
set_option maxHeartbeats 4000000 in
theorem qex_walk (w : World) : Calls Try.prog 8 #[] w fun e w' => e = .returned (.bool true) ∧ Below w.heap.size w w' := by
  go_enter Try.func8, Try.ntmps8
  go_wp2_with fail
  refine (new_ok w.heap.size 3 (by decide) (by decide) w (Nat.le_refl _)).mono ?_
  rintro e w1 ⟨p, cb, rfl, hbank, hc1, hp1, hcb1⟩
  have HB := hid hbank
  have HC := hid hc1
  clear hbank hc1
  go_wp2_with fail
  refine (qnew_any w.heap.size p cb _ xa0 0 1 2 1 w1 HB.out (by decide)).mono ?_
  rintro e w2 ⟨hc2, hr2⟩
  rw [show qerr xa0.vs 0 1 2 1 = 0 from qerr_freshX (n := 1) (by decide) (by decide)] at hr2
  rcases hr2 with ⟨h, _⟩ | ⟨_, qb, hqb, rfl, hqd⟩
  · exact absurd rfl h
  have HZ := hid (exq_init (HC.out.trans hc2 (fun _ _ h => h)) ⟨HB.out.ch hc2 id id (fun _ _ => id), hqd, ⟨by decide, by decide, by decide, by decide, by decide⟩, Nat.le_trans HC.out.size hqb⟩ hp1 hcb1)
  have H0 := hid (show ExQ w.heap.size p cb qb xa0 none [] w w2 from HZ.out)
  clear hqd hqb hc2 hp1 hcb1 HB HC HZ
  go_wp2_with fail
  refine (H0.out.push 0 7 (by decide) (by decide)).mono ?_
  rintro e w3 ⟨g0, rfl, h⟩
  have Hw3 := hid (show ExQ w.heap.size p cb qb xa0 none [(g0, xp 0 7)] w w3 from h)
  clear h
  go_wp2_with fail
  refine (Hw3.out.push 1 8 (by decide) (by decide)).mono ?_
  rintro e w4 ⟨g1, rfl, h⟩
  have Hw4 := hid (show ExQ w.heap.size p cb qb xa0 none [(g0, xp 0 7), (g1, xp 1 8)] w w4 from h)
  clear h
  go_wp2_with fail
  refine (Hw4.out.ures (k := 0) rfl (r := 8) (by decide +kernel)).mono ?_
  rintro e _ ⟨rfl, rfl⟩
  go_wp2_with fail
  go_loopw [7] (fun i wr => ∃ c : Nat, c ≤ 3 ∧ i = .int .i64 c ∧ ExQ w.heap.size p cb qb (ups xa0 (xp 0 7) c).1 none [(g0, (ups xa0 (xp 0 7) c).2), (g1, xp 1 8)] w wr) (fun i _ => 3 - (intOf i).toNat)
  case atStart => exact ⟨0, by decide, rfl, Hw4.out⟩
  case round =>
    obtain ⟨c, hc, rfl, hA⟩ := hrel
    have HA := hid hA
    clear hA
    rcases (show c = 0 ∨ c = 1 ∨ c = 2 ∨ c = 3 by omega) with rfl | rfl | rfl | rfl
    · have HB := hid (show ExQ w.heap.size p cb qb (ups xa0 (xp 0 7) 0).1 none [(g0, (ups xa0 (xp 0 7) 0).2), (g1, xp 1 8)] w wr from HA.out)
      clear HA
      go_wp2_with fail
      refine (HB.out.us (k := 0) (s := xa0) (q := xp 0 7) 0 rfl (by decide +kernel) (ph := 4) (by decide +kernel) (b := false) (by decide +kernel)).mono ?_
      rintro e wx ⟨rfl, h⟩
      have HX := hid (show ExQ w.heap.size p cb qb (ups xa0 (xp 0 7) 1).1 none [(g0, (ups xa0 (xp 0 7) 1).2), (g1, xp 1 8)] w wx from h)
      clear h
      go_wp2_with fail
      go_roundw
      case rel => exact ⟨1, by decide, by rfl, HX.out⟩
      case measure => simp [intOf]
    · have HB := hid (show ExQ w.heap.size p cb qb (ups xa0 (xp 0 7) 1).1 none [(g0, (ups xa0 (xp 0 7) 1).2), (g1, xp 1 8)] w wr from HA.out)
      clear HA
      go_wp2_with fail
      refine (HB.out.us (k := 0) (s := xa0) (q := xp 0 7) 1 rfl (by decide +kernel) (ph := 5) (by decide +kernel) (b := false) (by decide +kernel)).mono ?_
      rintro e wx ⟨rfl, h⟩
      have HX := hid (show ExQ w.heap.size p cb qb (ups xa0 (xp 0 7) 2).1 none [(g0, (ups xa0 (xp 0 7) 2).2), (g1, xp 1 8)] w wx from h)
      clear h
      go_wp2_with fail
      go_roundw
      case rel => exact ⟨2, by decide, by rfl, HX.out⟩
      case measure => simp [intOf]
    · have HB := hid (show ExQ w.heap.size p cb qb (ups xa0 (xp 0 7) 2).1 none [(g0, (ups xa0 (xp 0 7) 2).2), (g1, xp 1 8)] w wr from HA.out)
      clear HA
      go_wp2_with fail
      refine (HB.out.us (k := 0) (s := xa0) (q := xp 0 7) 2 rfl (by decide +kernel) (ph := 6) (by decide +kernel) (b := false) (by decide +kernel)).mono ?_
      rintro e wx ⟨rfl, h⟩
      have HX := hid (show ExQ w.heap.size p cb qb (ups xa0 (xp 0 7) 3).1 none [(g0, (ups xa0 (xp 0 7) 3).2), (g1, xp 1 8)] w wx from h)
      clear h
      go_wp2_with fail
      go_roundw
      case rel => exact ⟨3, by decide, by rfl, HX.out⟩
      case measure => simp [intOf]
    · have HR7 := hid (show ExQ w.heap.size p cb qb xa none [(g0, qa), (g1, xp 1 8)] w wr from HA.out)
      clear HA
      try rw [show ((3 : Nat) : Int) = 3 from rfl]
      go_wp2_with fail
      refine (HR7.out.us (k := 1) (s := xa) (q := (xp 1 8)) 0 rfl (by decide +kernel) (ph := 4) (by decide +kernel) (b := false) (by decide +kernel)).mono ?_
      rintro e w5 ⟨rfl, h⟩
      have Hw5 := hid (show ExQ w.heap.size p cb qb (ups xa (xp 1 8) 1).1 none [(g0, qa), (g1, (ups xa (xp 1 8) 1).2)] w w5 from h)
      clear h
      go_wp2_with fail
      refine (Hw5.out.us (k := 1) (s := xa) (q := (xp 1 8)) 1 rfl (by decide +kernel) (ph := 5) (by decide +kernel) (b := true) (by decide +kernel)).mono ?_
      rintro e w6 ⟨rfl, h⟩
      have Hw6 := hid (show ExQ w.heap.size p cb qb (ups xa (xp 1 8) 2).1 none [(g0, qa), (g1, (ups xa (xp 1 8) 2).2)] w w6 from h)
      clear h
      go_wp2_with fail
      refine (Hw6.out.ures (k := 1) rfl (r := 14) (by decide +kernel)).mono ?_
      rintro e _ ⟨rfl, rfl⟩
      go_wp2_with fail
      refine (Hw6.out.unext (k := 1) rfl (r := 0) (by decide +kernel)).mono ?_
      rintro e _ ⟨rfl, rfl⟩
      go_wp2_with fail
      refine (Hw6.out.us (k := 1) (s := xa) (q := (xp 1 8)) 2 rfl (by decide +kernel) (ph := 0) (by decide +kernel) (b := true) (by decide +kernel)).mono ?_
      rintro e w7 ⟨rfl, h⟩
      have Hw7 := hid (show ExQ w.heap.size p cb qb xb none [(g0, qa), (g1, qb1)] w w7 from h)
      clear h
      go_wp2_with fail
      refine (Hw7.out.blen (r := 5) (by decide +kernel)).mono ?_
      rintro e _ ⟨rfl, rfl⟩
      go_wp2_with fail
      refine (Hw7.out.qlen 0 1 (by decide +kernel) (by decide +kernel) (by decide) (by decide)).mono ?_
      rintro e w8 ⟨rfl, h⟩
      have Hw8 := hid (show ExQ w.heap.size p cb qb xb none [(g0, qa), (g1, qb1)] w w8 from h)
      clear h
      go_wp2_with fail
      refine (Hw8.out.qlist 0 1 (by decide +kernel) (by decide +kernel) (by decide) (by decide) (l := [0]) (by decide +kernel)).mono ?_
      rintro e w9 ⟨v9, rfl, hrow, h⟩
      obtain ⟨A9, c9, hv9, _⟩ := own_slice hrow
      subst hv9
      have HI9 := hid (own_words (xs := [0]) hrow)
      have Hw9 := hid (show ExQ w.heap.size p cb qb xb none [(g0, qa), (g1, qb1)] w w9 from h)
      clear h hrow
      go_wp2_with fail
      refine (eqw A9 c9 0 w9 HI9.out).mono ?_
      rintro e w10 ⟨rfl, hc⟩
      have Hw10 := hid (show ExQ w.heap.size p cb qb xb none [(g0, qa), (g1, qb1)] w w10 from Hw9.out.keep hc)
      clear hc
      go_wp2_with fail
      refine (Hw10.out.pull 2 (by decide) trivial).mono ?_
      rintro e w11 ⟨gc, rfl, h⟩
      have Hw11 := hid (show ExQ w.heap.size p cb qb xb (some (gc, xl xb)) [(g0, qa), (g1, qb1)] w w11 from h)
      clear h
      go_wp2_with fail
      refine (Hw11.out.pull_busy 2 (by decide) rfl).mono ?_
      rintro e _ ⟨rfl, rfl⟩
      go_wp2_with fail
      refine (Hw11.out.ls (s := xb) (q := (xl xb)) 0 (by decide +kernel) (ph := 19) (by decide +kernel) (b := true) (by decide +kernel)).mono ?_
      rintro e w12 ⟨rfl, h⟩
      have Hw12 := hid (show ExQ w.heap.size p cb qb xc (some (gc, lc)) [(g0, qa), (g1, qb1)] w w12 from h)
      clear h
      go_wp2_with fail
      refine (Hw12.out.lres (a := 0) (b := 17) (by decide +kernel)).mono ?_
      rintro e w13 ⟨rfl, h⟩
      have Hw13 := hid (show ExQ w.heap.size p cb qb xc (some (gc, lc)) [(g0, qa), (g1, qb1)] w w13 from h)
      clear h
      go_wp2_with fail
      refine (Hw13.out.us (k := 0) (s := xc) (q := qa) 0 rfl (by decide +kernel) (ph := 7) (by decide +kernel) (b := true) (by decide +kernel)).mono ?_
      rintro e w14 ⟨rfl, h⟩
      have Hw14 := hid (show ExQ w.heap.size p cb qb xd (some (gc, lc)) [(g0, qd), (g1, qb1)] w w14 from h)
      clear h
      go_wp2_with fail
      refine (Hw14.out.ures (k := 0) rfl (r := 0) (by decide +kernel)).mono ?_
      rintro e _ ⟨rfl, rfl⟩
      go_wp2_with fail
      refine (Hw14.out.qlist 0 1 (by decide +kernel) (by decide +kernel) (by decide) (by decide) (l := [7]) (by decide +kernel)).mono ?_
      rintro e w15 ⟨v15, rfl, hrow, h⟩
      obtain ⟨A15, c15, hv15, _⟩ := own_slice hrow
      subst hv15
      have HI15 := hid (own_words (xs := [7]) hrow)
      have Hw15 := hid (show ExQ w.heap.size p cb qb xd (some (gc, lc)) [(g0, qd), (g1, qb1)] w w15 from h)
      clear h hrow
      go_wp2_with fail
      refine (eqw A15 c15 7 w15 HI15.out).mono ?_
      rintro e w16 ⟨rfl, hc⟩
      have Hw16 := hid (show ExQ w.heap.size p cb qb xd (some (gc, lc)) [(g0, qd), (g1, qb1)] w w16 from Hw15.out.keep hc)
      clear hc
      go_wp2_with fail
      refine (Hw16.out.pull 2 (by decide) (show lc.fin = true by decide +kernel)).mono ?_
      rintro e w17 ⟨gd, rfl, h⟩
      have Hw17 := hid (show ExQ w.heap.size p cb qb xd (some (gd, xl xd)) [(g0, qd), (g1, qb1)] w w17 from h)
      clear h
      go_wp2_with fail
      refine (Hw17.out.ls (s := xd) (q := (xl xd)) 0 (by decide +kernel) (ph := 19) (by decide +kernel) (b := false) (by decide +kernel)).mono ?_
      rintro e w18 ⟨rfl, h⟩
      have Hw18 := hid (show ExQ w.heap.size p cb qb (lps xd (xl xd) 1).1 (some (gd, (lps xd (xl xd) 1).2)) [(g0, qd), (g1, qb1)] w w18 from h)
      clear h
      go_wp2_with fail
      refine (Hw18.out.ls (s := xd) (q := (xl xd)) 1 (by decide +kernel) (ph := 20) (by decide +kernel) (b := false) (by decide +kernel)).mono ?_
      rintro e w19 ⟨rfl, h⟩
      have Hw19 := hid (show ExQ w.heap.size p cb qb (lps xd (xl xd) 2).1 (some (gd, (lps xd (xl xd) 2).2)) [(g0, qd), (g1, qb1)] w w19 from h)
      clear h
      go_wp2_with fail
      refine (Hw19.out.lres (a := 0) (b := 8) (by decide +kernel)).mono ?_
      rintro e w20 ⟨rfl, h⟩
      have Hw20 := hid (show ExQ w.heap.size p cb qb (lps xd (xl xd) 2).1 (some (gd, (lps xd (xl xd) 2).2)) [(g0, qd), (g1, qb1)] w w20 from h)
      clear h
      go_wp2_with fail
      refine (Hw20.out.qlist 0 1 (by decide +kernel) (by decide +kernel) (by decide) (by decide) (l := [0]) (by decide +kernel)).mono ?_
      rintro e w21 ⟨v21, rfl, hrow, h⟩
      obtain ⟨A21, c21, hv21, _⟩ := own_slice hrow
      subst hv21
      have HI21 := hid (own_words (xs := [0]) hrow)
      have Hw21 := hid (show ExQ w.heap.size p cb qb (lps xd (xl xd) 2).1 (some (gd, (lps xd (xl xd) 2).2)) [(g0, qd), (g1, qb1)] w w21 from h)
      clear h hrow
      go_wp2_with fail
      refine (eqw A21 c21 0 w21 HI21.out).mono ?_
      rintro e w22 ⟨rfl, hc⟩
      have Hw22 := hid (show ExQ w.heap.size p cb qb (lps xd (xl xd) 2).1 (some (gd, (lps xd (xl xd) 2).2)) [(g0, qd), (g1, qb1)] w w22 from Hw21.out.keep hc)
      clear hc
      go_wp2_with fail
      refine (Hw22.out.ls (s := xd) (q := (xl xd)) 2 (by decide +kernel) (ph := 21) (by decide +kernel) (b := true) (by decide +kernel)).mono ?_
      rintro e w23 ⟨rfl, h⟩
      have Hw23 := hid (show ExQ w.heap.size p cb qb xe (some (gd, le)) [(g0, qd), (g1, qb1)] w w23 from h)
      clear h
      go_wp2_with fail
      refine (Hw23.out.lres (a := 7) (b := 0) (by decide +kernel)).mono ?_
      rintro e w24 ⟨rfl, h⟩
      have Hw24 := hid (show ExQ w.heap.size p cb qb xe (some (gd, le)) [(g0, qd), (g1, qb1)] w w24 from h)
      clear h
      go_wp2_with fail
      refine (Hw24.out.qlen 1 1 (by decide +kernel) (by decide +kernel) (by decide) (by decide)).mono ?_
      rintro e w25 ⟨rfl, h⟩
      have Hw25 := hid (show ExQ w.heap.size p cb qb xe (some (gd, le)) [(g0, qd), (g1, qb1)] w w25 from h)
      clear h
      go_wp2_with fail
      refine (Hw25.out.push 0 1 (by decide) (by decide)).mono ?_
      rintro e w26 ⟨g2, rfl, h⟩
      have Hw26 := hid (show ExQ w.heap.size p cb qb xe (some (gd, le)) [(g0, qd), (g1, qb1), (g2, xp 0 1)] w w26 from h)
      clear h
      go_wp2_with fail
      refine (Hw26.out.push 1 2 (by decide) (by decide)).mono ?_
      rintro e w27 ⟨g3, rfl, h⟩
      have Hw27 := hid (show ExQ w.heap.size p cb qb xe (some (gd, le)) [(g0, qd), (g1, qb1), (g2, xp 0 1), (g3, xp 1 2)] w w27 from h)
      clear h
      go_wp2_with fail
      refine (Hw27.out.pull 2 (by decide) (show le.fin = true by decide +kernel)).mono ?_
      rintro e w28 ⟨ge, rfl, h⟩
      have Hw28 := hid (show ExQ w.heap.size p cb qb xe (some (ge, xl xe)) [(g0, qd), (g1, qb1), (g2, xp 0 1), (g3, xp 1 2)] w w28 from h)
      clear h
      go_wp2_with fail
      refine (Hw28.out.us (k := 2) (s := xe) (q := (xp 0 1)) 0 rfl (by decide +kernel) (ph := 4) (by decide +kernel) (b := false) (by decide +kernel)).mono ?_
      rintro e w29 ⟨rfl, h⟩
      have Hw29 := hid (show ExQ w.heap.size p cb qb xf (some (ge, xl xe)) [(g0, qd), (g1, qb1), (g2, qf), (g3, xp 1 2)] w w29 from h)
      clear h
      go_wp2_with fail
      go_loopw [27] (fun i wr => ∃ c : Nat, c ≤ 4 ∧ i = .int .i64 c ∧ ExQ w.heap.size p cb qb (ups xf (xp 1 2) c).1 (some (ge, xl xe)) [(g0, qd), (g1, qb1), (g2, qf), (g3, (ups xf (xp 1 2) c).2)] w wr) (fun i _ => 4 - (intOf i).toNat)
      case atStart => exact ⟨0, by decide, rfl, Hw29.out⟩
      case round =>
        obtain ⟨c, hc, rfl, hA⟩ := hrel
        have HA := hid hA
        clear hA
        rcases (show c = 0 ∨ c = 1 ∨ c = 2 ∨ c = 3 ∨ c = 4 by omega) with rfl | rfl | rfl | rfl | rfl
        · have HB := hid (show ExQ w.heap.size p cb qb (ups xf (xp 1 2) 0).1 (some (ge, xl xe)) [(g0, qd), (g1, qb1), (g2, qf), (g3, (ups xf (xp 1 2) 0).2)] w wr from HA.out)
          clear HA
          go_wp2_with fail
          refine (HB.out.us (k := 3) (s := xf) (q := xp 1 2) 0 rfl (by decide +kernel) (ph := 4) (by decide +kernel) (b := false) (by decide +kernel)).mono ?_
          rintro e wx ⟨rfl, h⟩
          have HX := hid (show ExQ w.heap.size p cb qb (ups xf (xp 1 2) 1).1 (some (ge, xl xe)) [(g0, qd), (g1, qb1), (g2, qf), (g3, (ups xf (xp 1 2) 1).2)] w wx from h)
          clear h
          go_wp2_with fail
          go_roundw
          case rel => exact ⟨1, by decide, by rfl, HX.out⟩
          case measure => simp [intOf]
        · have HB := hid (show ExQ w.heap.size p cb qb (ups xf (xp 1 2) 1).1 (some (ge, xl xe)) [(g0, qd), (g1, qb1), (g2, qf), (g3, (ups xf (xp 1 2) 1).2)] w wr from HA.out)
          clear HA
          go_wp2_with fail
          refine (HB.out.us (k := 3) (s := xf) (q := xp 1 2) 1 rfl (by decide +kernel) (ph := 5) (by decide +kernel) (b := false) (by decide +kernel)).mono ?_
          rintro e wx ⟨rfl, h⟩
          have HX := hid (show ExQ w.heap.size p cb qb (ups xf (xp 1 2) 2).1 (some (ge, xl xe)) [(g0, qd), (g1, qb1), (g2, qf), (g3, (ups xf (xp 1 2) 2).2)] w wx from h)
          clear h
          go_wp2_with fail
          go_roundw
          case rel => exact ⟨2, by decide, by rfl, HX.out⟩
          case measure => simp [intOf]
        · have HB := hid (show ExQ w.heap.size p cb qb (ups xf (xp 1 2) 2).1 (some (ge, xl xe)) [(g0, qd), (g1, qb1), (g2, qf), (g3, (ups xf (xp 1 2) 2).2)] w wr from HA.out)
          clear HA
          go_wp2_with fail
          refine (HB.out.us (k := 3) (s := xf) (q := xp 1 2) 2 rfl (by decide +kernel) (ph := 6) (by decide +kernel) (b := false) (by decide +kernel)).mono ?_
          rintro e wx ⟨rfl, h⟩
          have HX := hid (show ExQ w.heap.size p cb qb (ups xf (xp 1 2) 3).1 (some (ge, xl xe)) [(g0, qd), (g1, qb1), (g2, qf), (g3, (ups xf (xp 1 2) 3).2)] w wx from h)
          clear h
          go_wp2_with fail
          go_roundw
          case rel => exact ⟨3, by decide, by rfl, HX.out⟩
          case measure => simp [intOf]
        · have HB := hid (show ExQ w.heap.size p cb qb (ups xf (xp 1 2) 3).1 (some (ge, xl xe)) [(g0, qd), (g1, qb1), (g2, qf), (g3, (ups xf (xp 1 2) 3).2)] w wr from HA.out)
          clear HA
          go_wp2_with fail
          refine (HB.out.us (k := 3) (s := xf) (q := xp 1 2) 3 rfl (by decide +kernel) (ph := 7) (by decide +kernel) (b := true) (by decide +kernel)).mono ?_
          rintro e wx ⟨rfl, h⟩
          have HX := hid (show ExQ w.heap.size p cb qb (ups xf (xp 1 2) 4).1 (some (ge, xl xe)) [(g0, qd), (g1, qb1), (g2, qf), (g3, (ups xf (xp 1 2) 4).2)] w wx from h)
          clear h
          go_wp2_with fail
          go_roundw
          case rel => exact ⟨4, by decide, by rfl, HX.out⟩
          case measure => simp [intOf]
        · have HR27 := hid (show ExQ w.heap.size p cb qb xg (some (ge, xl xe)) [(g0, qd), (g1, qb1), (g2, qf), (g3, qg)] w wr from HA.out)
          clear HA
          try rw [show ((4 : Nat) : Int) = 4 from rfl]
          go_wp2_with fail
          go_loopw [28] (fun i wr => ∃ c : Nat, c ≤ 3 ∧ i = .int .i64 c ∧ ExQ w.heap.size p cb qb (lps xg (xl xe) c).1 (some (ge, (lps xg (xl xe) c).2)) [(g0, qd), (g1, qb1), (g2, qf), (g3, qg)] w wr) (fun i _ => 3 - (intOf i).toNat)
          case atStart => exact ⟨0, by decide, rfl, HR27.out⟩
          case round =>
            obtain ⟨c, hc, rfl, hA⟩ := hrel
            have HA := hid hA
            clear hA
            rcases (show c = 0 ∨ c = 1 ∨ c = 2 ∨ c = 3 by omega) with rfl | rfl | rfl | rfl
            · have HB := hid (show ExQ w.heap.size p cb qb (lps xg (xl xe) 0).1 (some (ge, (lps xg (xl xe) 0).2)) [(g0, qd), (g1, qb1), (g2, qf), (g3, qg)] w wr from HA.out)
              clear HA
              go_wp2_with fail
              refine (HB.out.ls (s := xg) (q := xl xe) 0 (by decide +kernel) (ph := 19) (by decide +kernel) (b := false) (by decide +kernel)).mono ?_
              rintro e wx ⟨rfl, h⟩
              have HX := hid (show ExQ w.heap.size p cb qb (lps xg (xl xe) 1).1 (some (ge, (lps xg (xl xe) 1).2)) [(g0, qd), (g1, qb1), (g2, qf), (g3, qg)] w wx from h)
              clear h
              go_wp2_with fail
              go_roundw
              case rel => exact ⟨1, by decide, by rfl, HX.out⟩
              case measure => simp [intOf]
            · have HB := hid (show ExQ w.heap.size p cb qb (lps xg (xl xe) 1).1 (some (ge, (lps xg (xl xe) 1).2)) [(g0, qd), (g1, qb1), (g2, qf), (g3, qg)] w wr from HA.out)
              clear HA
              go_wp2_with fail
              refine (HB.out.ls (s := xg) (q := xl xe) 1 (by decide +kernel) (ph := 20) (by decide +kernel) (b := false) (by decide +kernel)).mono ?_
              rintro e wx ⟨rfl, h⟩
              have HX := hid (show ExQ w.heap.size p cb qb (lps xg (xl xe) 2).1 (some (ge, (lps xg (xl xe) 2).2)) [(g0, qd), (g1, qb1), (g2, qf), (g3, qg)] w wx from h)
              clear h
              go_wp2_with fail
              go_roundw
              case rel => exact ⟨2, by decide, by rfl, HX.out⟩
              case measure => simp [intOf]
            · have HB := hid (show ExQ w.heap.size p cb qb (lps xg (xl xe) 2).1 (some (ge, (lps xg (xl xe) 2).2)) [(g0, qd), (g1, qb1), (g2, qf), (g3, qg)] w wr from HA.out)
              clear HA
              go_wp2_with fail
              refine (HB.out.ls (s := xg) (q := xl xe) 2 (by decide +kernel) (ph := 21) (by decide +kernel) (b := true) (by decide +kernel)).mono ?_
              rintro e wx ⟨rfl, h⟩
              have HX := hid (show ExQ w.heap.size p cb qb (lps xg (xl xe) 3).1 (some (ge, (lps xg (xl xe) 3).2)) [(g0, qd), (g1, qb1), (g2, qf), (g3, qg)] w wx from h)
              clear h
              go_wp2_with fail
              go_roundw
              case rel => exact ⟨3, by decide, by rfl, HX.out⟩
              case measure => simp [intOf]
            · have HR28 := hid (show ExQ w.heap.size p cb qb xh (some (ge, lh)) [(g0, qd), (g1, qb1), (g2, qf), (g3, qg)] w wr from HA.out)
              clear HA
              try rw [show ((3 : Nat) : Int) = 3 from rfl]
              go_wp2_with fail
              refine (HR28.out.lres (a := 2) (b := 0) (by decide +kernel)).mono ?_
              rintro e w30 ⟨rfl, h⟩
              have Hw30 := hid (show ExQ w.heap.size p cb qb xh (some (ge, lh)) [(g0, qd), (g1, qb1), (g2, qf), (g3, qg)] w w30 from h)
              clear h
              go_wp2_with fail
              refine (Hw30.out.us (k := 2) (s := xh) (q := qf) 0 rfl (by decide +kernel) (ph := 5) (by decide +kernel) (b := false) (by decide +kernel)).mono ?_
              rintro e w31 ⟨rfl, h⟩
              have Hw31 := hid (show ExQ w.heap.size p cb qb xi (some (ge, lh)) [(g0, qd), (g1, qb1), (g2, qi), (g3, qg)] w w31 from h)
              clear h
              go_wp2_with fail
              refine (Hw31.out.unext (k := 2) rfl (r := 4) (by decide +kernel)).mono ?_
              rintro e _ ⟨rfl, rfl⟩
              go_wp2_with fail
              refine (ExQ.push_bad 0 0 (.inr (.inr rfl)) _).mono ?_
              rintro e _ ⟨rfl, rfl⟩
              go_wp2_with fail
              refine (Hw31.out.pull_bad 16 (.inr (by decide))).mono ?_
              rintro e _ ⟨rfl, rfl⟩
              go_wp2_with fail
              refine (zpush _).mono ?_
              rintro e _ ⟨rfl, rfl⟩
              go_wp2_with fail
              refine (zpull _).mono ?_
              rintro e _ ⟨rfl, rfl⟩
              go_wp2_with fail
              refine (znew _).mono ?_
              rintro e w32 ⟨rfl, hc⟩
              have Hw32 := hid (show ExQ w.heap.size p cb qb xi (some (ge, lh)) [(g0, qd), (g1, qb1), (g2, qi), (g3, qg)] w w32 from Hw31.out.keep hc)
              clear hc
              go_wp2_with fail
              refine (zustep _).mono ?_
              rintro e _ ⟨rfl, rfl⟩
              go_wp2_with fail
              refine (zlstep _).mono ?_
              rintro e _ ⟨rfl, rfl⟩
              go_wp2_with fail
              refine (zlres _).mono ?_
              rintro e _ ⟨rfl, rfl⟩
              go_wp2_with fail
              refine (zunext _).mono ?_
              rintro e _ ⟨rfl, rfl⟩
              go_wp2_with fail
              refine (zlnext _).mono ?_
              rintro e _ ⟨rfl, rfl⟩
              go_wp2_with fail
              refine (zures _).mono ?_
              rintro e _ ⟨rfl, rfl⟩
              go_wp2_with fail
              refine (zlen _).mono ?_
              rintro e _ ⟨rfl, rfl⟩
              go_wp2_with fail
              refine (zlist _).mono ?_
              rintro e _ ⟨rfl, rfl⟩
              go_wp2_with fail
              go_ret
              exact ⟨rfl, Hw32.out.bel⟩
end Go.Proofs.Ytpkjjlahmjijnaa
