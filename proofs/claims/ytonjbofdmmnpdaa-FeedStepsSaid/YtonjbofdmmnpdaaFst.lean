/- FeedSteps: the walk. -/
import Derived.Test.YtonjbofdmmnpdaaFsM
import Derived.Test.YtonjbofdmmnpdaaFNewA
import Derived.Test.YtonjbofdmmnpdaaFeedH
import Derived.Test.YtonjbofdmmnpdaaCellF
import Derived.Test.YtonjbofdmmnpdaaFrame
namespace Go.Proofs.Ytonjbofdmmnpdaa
open Go.RowKit
set_option linter.unusedVariables false
set_option linter.unusedSimpArgs false
set_option linter.unusedSectionVars false

def evKsF : List (Option IntKind) := [some .u8, some .i64, some .u64]
structure EvF where
  d : Int
  t : Int
  v : Int
def EvF.cells (x : EvF) : List Value := [.int .u8 x.d, .int .i64 x.t, .int .u64 x.v]
def EvF.ok (x : EvF) : Prop := 0 ≤ x.v ∧ x.v < 18446744073709551616
theorem evf_of_fits {vs : List Value} (h : Fits evKsF vs) : ∃ x : EvF, vs = x.cells ∧ x.ok := by
  obtain ⟨hl, hf⟩ := h
  obtain ⟨v0, e0, n0, rfl, w0⟩ := hf 0 _ rfl
  obtain ⟨v1, e1, n1, rfl, w1⟩ := hf 1 _ rfl
  obtain ⟨v2, e2, n2, rfl, w2⟩ := hf 2 _ rfl
  refine ⟨⟨n0, n1, n2⟩, ?_, wf_u64 w2⟩
  match vs, hl with
  | [a, b, c], _ => simp at e0 e1 e2; simp [EvF.cells, e0, e1, e2]
def InEvf (w : World) (a : Option Addr) (n : Nat) (xs : List EvF) : Prop :=
  xs.length = n ∧ (∀ x ∈ xs, x.ok) ∧ (0 < n → ∃ b off, a = some ⟨b, off, none⟩ ∧ b < w.heap.size ∧ ∀ (i j : Nat) x v, xs[i]? = some x → x.cells[j]? = some v → w.cell? ⟨b, off + (i * 3 + j), none⟩ = some v)
theorem in_evf {w : World} {a : Option Addr} {n : Nat} {ls : List (List Value)} (h : InRows evKsF w a n ls) : ∃ xs, InEvf w a n xs := by
  obtain ⟨hl, hf, hc⟩ := h
  obtain ⟨xs, hxl, hx⟩ := exists_list (R := fun i (x : EvF) => ls[i]? = some x.cells ∧ x.ok) n (fun i hi => by
    have h0 : ls[i]? = some (ls[i]'(by omega)) := List.getElem?_eq_getElem (by omega)
    obtain ⟨x, hx, ho⟩ := evf_of_fits (hf _ (List.getElem_mem (by omega : i < ls.length)))
    exact ⟨x, by rw [h0, hx], ho⟩)
  refine ⟨xs, hxl, fun x hm => ?_, fun h0 => ?_⟩
  · obtain ⟨i, hi⟩ := List.getElem?_of_mem hm
    exact (hx i x hi).2
  · obtain ⟨b, off, rfl, hb, hcell⟩ := hc h0
    exact ⟨b, off, rfl, hb, fun i j x v hi hj => hcell i j _ v (hx i x hi).1 hj⟩
theorem row_wordsF {w : World} {B n c : Nat} {A : Option Addr} {xs : List Int} (h : w.ownsRow B 35 1 (.slice A n c) n (xs.map (Value.int .u64))) : SameWords w A n xs := by
  have hl : xs.length = n := by have := h.1; simpa using this
  obtain ⟨a, cap, hv, _, hs⟩ := row_words h hl
  injection hv with e1 _ _
  subst e1
  exact hs
theorem flist_len {n M : Nat} {s : BS} {F : Fd} {P : PO} {R : RO} (h : FsK n M s F P R) : (flist s F).length < 1000000 := by
  unfold flist
  rw [List.length_map, List.length_range]
  have := h.fi.h
  have := h.fi.tM
  have := h.hM
  omega
theorem pV_out (s : BS) (F : Fd) (P : PO) : pV (pOut s F P).2.2.1 = pV P ∧ rpV (pOut s F P).2.2.1 = rpV P := by
  match P with
  | none => exact ⟨rfl, rfl⟩
  | some (g, g', q) =>
    by_cases h0 : q.ph = 0
    · rw [show pOut s F (some (g, g', q)) = (s, F, some (g, g', q), 0, true) from if_pos h0]; exact ⟨rfl, rfl⟩
    · rw [show pOut s F (some (g, g', q)) = _ from if_neg h0]; exact ⟨rfl, rfl⟩
theorem rV_out (s : BS) (F : Fd) (R : RO) : rV (rOut s F R).2.2.1 = rV R ∧ rrV (rOut s F R).2.2.1 = rrV R := by
  match R with
  | none => exact ⟨rfl, rfl⟩
  | some (g, g', r, v) =>
    by_cases h0 : r.ph = 0
    · rw [show rOut s F (some (g, g', r, v)) = (s, F, some (g, g', r, v), 0, true) from if_pos h0]; exact ⟨rfl, rfl⟩
    · rw [show rOut s F (some (g, g', r, v)) = _ from if_neg h0]; exact ⟨rfl, rfl⟩
theorem FeedM.drewNF {B : Nat} {w : World} {p cb f : Nat} {lv : Value} {s : BS} {F : Fd} (h : FeedM B w p cb f lv s F) (n : Nat) : FeedM B (w.drewN n) p cb f lv s F := h.keep ((Ch.refl _ w).drewN n)
theorem Below.drewNF {B : Nat} {w w' : World} (h : Below B w w') (n : Nat) : Below B w (w'.drewN n) := ⟨h.os, h.tape, h.output, h.size, h.block⟩
theorem eqAccs_qF (a b : Option Addr) (n ca m cb : Nat) (xs : List Acc) (w : World) (ha : InAccs w a n xs) (hb : InAccs w b m xs) (hn : n < 1000000) (k : Nat) :
    Calls Try.prog 50 #[.slice a n ca, .slice b m cb] (w.drewN k) fun e w'' => e = .returned (.bool true) ∧ ∃ m, w'' = w.drewN m :=
  Calls.quiet_of ((eqAccs_any a b n ca m cb xs xs (w.drewN k) (ha.ch ((Ch.refl (fun _ => False) w).drewN k) (fun _ _ _ => id)) (hb.ch ((Ch.refl (fun _ => False) w).drewN k) (fun _ _ _ => id)) hn).mono fun e w' ⟨he, hw⟩ => ⟨he rfl, hw⟩)
theorem lk_repF (m c : Nat) : lk (List.replicate m (0 : Int)) c = 0 := by
  simp only [lk, List.getD_eq_getElem?_getD, List.getElem?_replicate]
  split <;> rfl
/-- The beginning. -/
theorem fs_init {p cb fb rp vb rf n : Nat} {w w1 w2 w3 w4 : World} (c : Ch (fun _ => False) w w4) (hI : FeedM w.heap.size w4 p cb fb (.slice none 0 0) ⟨List.replicate (n + 6) 0, []⟩ ⟨1, n, 0, false, false⟩) (hR : RFeedM w.heap.size w4 rp vb rf (.slice none 0 0) ⟨List.replicate (n + 6) 0, []⟩ ⟨1, n, 0, false, false⟩) : FsA w.heap.size p cb fb rp vb rf ⟨List.replicate (n + 6) 0, []⟩ ⟨1, n, 0, false, false⟩ none none ⟨List.replicate (n + 6) 0, []⟩ ⟨1, n, 0, false, false⟩ none none w w4 := by
  have hb := c.below (B := w.heap.size) (Nat.le_refl _) (fun _ h => h.elim)
  have lowI : ∀ k, (feedR w.heap.size p cb fb (.slice none 0 0) ⟨List.replicate (n + 6) 0, []⟩ ⟨1, n, 0, false, false⟩).foot k → w.heap.size ≤ k := by
    rintro k ((rfl | rfl | hk) | rfl)
    · exact hI.b.bp
    · exact hI.b.bc
    · cases hk
    · exact hI.bf
  have lowR : ∀ k, (rfeedR w.heap.size rp vb rf (.slice none 0 0) ⟨List.replicate (n + 6) 0, []⟩ ⟨1, n, 0, false, false⟩).foot k → w.heap.size ≤ k := by
    rintro k ((rfl | rfl | hk) | rfl)
    · exact hR.b.bp
    · exact hR.b.bc
    · cases hk
    · exact hR.bf
  have apart : ∀ k, (feedR w.heap.size p cb fb (.slice none 0 0) ⟨List.replicate (n + 6) 0, []⟩ ⟨1, n, 0, false, false⟩).foot k → ¬ (rfeedR w.heap.size rp vb rf (.slice none 0 0) ⟨List.replicate (n + 6) 0, []⟩ ⟨1, n, 0, false, false⟩).foot k := by
    have key : ∀ {k : Nat} {t : TypeId} {cs : Array Value}, Blk w4 k t cs → t ≠ 82 → t ≠ 35 → t ≠ 100 → ¬ (rfeedR w.heap.size rp vb rf (.slice none 0 0) ⟨List.replicate (n + 6) 0, []⟩ ⟨1, n, 0, false, false⟩).foot k := by
      intro k t cs hb t1 t2 t3 hk'
      rcases hk' with (e | e | e) | e
      · exact hb.ne hR.b.hp t1 e
      · exact hb.ne hR.b.hc t2 e
      · cases e
      · exact hb.ne hR.fd t3 e
    rintro k ((rfl | rfl | hk) | rfl)
    · exact key hI.b.hp (by decide) (by decide) (by decide)
    · exact key hI.b.hc (by decide) (by decide) (by decide)
    · cases hk
    · exact key hI.fd (by decide) (by decide) (by decide)
  have no : ∀ k, ¬ (pureR True).foot k := fun k hk => hk
  refine ⟨(.slice none 0 0), (.slice none 0 0), ⟨fun i r hi => ?_, fun i j r s hi hj hne k hr hs => ?_, fun i r hi k hk => ?_, hb, c.size⟩⟩
  · match i, hi with
    | 0, hi => injection hi with hi; subst hi; exact hI
    | 1, hi => injection hi with hi; subst hi; exact hR
    | 2, hi => injection hi with hi; subst hi; exact trivial
    | 3, hi => injection hi with hi; subst hi; exact trivial
    | 4, hi => injection hi with hi; subst hi; exact trivial
    | 5, hi => injection hi with hi; subst hi; exact trivial
  · have two : ∀ (i : Nat) (r : Res), [feedR w.heap.size p cb fb (.slice none 0 0) ⟨List.replicate (n + 6) 0, []⟩ ⟨1, n, 0, false, false⟩, rfeedR w.heap.size rp vb rf (.slice none 0 0) ⟨List.replicate (n + 6) 0, []⟩ ⟨1, n, 0, false, false⟩, pdR fb none, rpdR rf none, rdR fb none, rrdR rf none][i]? = some r → r.foot k → (i = 0 ∧ r = feedR w.heap.size p cb fb (.slice none 0 0) ⟨List.replicate (n + 6) 0, []⟩ ⟨1, n, 0, false, false⟩) ∨ (i = 1 ∧ r = rfeedR w.heap.size rp vb rf (.slice none 0 0) ⟨List.replicate (n + 6) 0, []⟩ ⟨1, n, 0, false, false⟩) := by
      intro i r hi hk
      match i, hi with
      | 0, hi => injection hi with hi; exact .inl ⟨rfl, hi.symm⟩
      | 1, hi => injection hi with hi; exact .inr ⟨rfl, hi.symm⟩
      | 2, hi => injection hi with hi; subst hi; exact (no k hk).elim
      | 3, hi => injection hi with hi; subst hi; exact (no k hk).elim
      | 4, hi => injection hi with hi; subst hi; exact (no k hk).elim
      | 5, hi => injection hi with hi; subst hi; exact (no k hk).elim
    rcases two i r hi hr with ⟨rfl, rfl⟩ | ⟨rfl, rfl⟩ <;> rcases two j s hj hs with ⟨rfl, rfl⟩ | ⟨rfl, rfl⟩
    · exact hne rfl
    · exact apart k hr hs
    · exact apart k hs hr
    · exact hne rfl
  · match i, hi with
    | 0, hi => injection hi with hi; subst hi; exact lowI k hk
    | 1, hi => injection hi with hi; subst hi; exact lowR k hk
    | 2, hi => injection hi with hi; subst hi; exact (no k hk).elim
    | 3, hi => injection hi with hi; subst hi; exact (no k hk).elim
    | 4, hi => injection hi with hi; subst hi; exact (no k hk).elim
    | 5, hi => injection hi with hi; subst hi; exact (no k hk).elim
theorem fsk_init {n : Nat} (h1 : 1 ≤ n) (h6 : n ≤ 6) : FsK n 0 ⟨List.replicate (n + 6) 0, []⟩ ⟨1, n, 0, false, false⟩ none none := by
  have e1 : cHead ⟨List.replicate (n + 6) 0, []⟩ ⟨1, n, 0, false, false⟩ = 0 := lk_repF _ _
  have e2 : cTail ⟨List.replicate (n + 6) 0, []⟩ ⟨1, n, 0, false, false⟩ = 0 := lk_repF _ _
  exact ⟨⟨rfl, rfl, List.length_replicate .., Nat.le_refl _, by rw [e1]; decide, by rw [e1, e2]; decide, by rw [e1, e2]; omega, by rw [e2]; decide, Int.le_refl _⟩, by decide, h1, h6, rfl, rfl, fun _ _ _ e => by (cases e), fun _ _ _ _ e => by (cases e)⟩
/-- The events so far. -/
def FsSo (p cb fb rp vb rf n M : Nat) (s1 s2 s3 s4 : Value) (w0 w : World) : Prop :=
  ∃ s F P R, s1 = pV P ∧ s2 = rpV P ∧ s3 = rV R ∧ s4 = rrV R ∧ FsK n M s F P R ∧ FsA w0.heap.size p cb fb rp vb rf s F P R s F P R w0 w
set_option maxRecDepth 100000 in
set_option maxHeartbeats 16000000 in
theorem fsteps_walk (n0 : Int) (a : Option Addr) (len cap : Nat) (ls : List (List Value)) (w : World) (hn : (Lit.int .i64 n0).wf = true) (hx : InRows evKsF w a len ls) :
    Calls Try.prog 11 #[.int .i64 n0, .slice a len cap] w fun e w' => e = .returned (.bool true) ∧ Below w.heap.size w w' := by
  obtain ⟨xs, hev⟩ := in_evf hx
  have HE := hid hev
  clear hx hev
  by_cases h1 : n0 < 1
  · have d1 : decide (n0 < 1) = true := decide_eq_true h1
    go_enter Try.func11, Try.ntmps11
    go_wp2_with fail
    refine (known_any _).mono ?_
    rintro e w2 ⟨rfl, hb⟩
    go_wp2_with fail
    go_ret
    exact ⟨rfl, hb⟩
  have d1 : decide (n0 < 1) = false := decide_eq_false h1
  by_cases h2 : 6 < n0
  · have d2 : decide (6 < n0) = true := decide_eq_true h2
    go_enter Try.func11, Try.ntmps11
    go_wp2_with fail
    refine (known_any _).mono ?_
    rintro e w2 ⟨rfl, hb⟩
    go_wp2_with fail
    go_ret
    exact ⟨rfl, hb⟩
  have d2 : decide (6 < n0) = false := decide_eq_false h2
  by_cases h3 : 200 < len
  · have d3 : decide (200 < len) = true := decide_eq_true h3
    have d3' : decide ((200 : Int) < (len : Int)) = true := decide_eq_true (by omega)
    go_enter Try.func11, Try.ntmps11
    go_wp2_with fail
    refine (known_any _).mono ?_
    rintro e w2 ⟨rfl, hb⟩
    go_wp2_with fail
    go_ret
    exact ⟨rfl, hb⟩
  have d3 : decide (200 < len) = false := decide_eq_false h3
  have d3' : decide ((200 : Int) < (len : Int)) = false := decide_eq_false (by omega)
  obtain ⟨n, rfl⟩ := Int.eq_ofNat_of_zero_le (show 0 ≤ n0 by omega)
  have hl : len ≤ 200 := by omega
  have hn1 : 1 ≤ n := by omega
  have hn6 : n ≤ 6 := by omega
  go_enter Try.func11, Try.ntmps11
  go_wp2_with fail
  rw [show ((n : Int) + 6) = ((n + 6 : Nat) : Int) by push_cast; rfl]
  refine (new_ok w.heap.size (n + 6) (by omega) (by omega) w (Nat.le_refl _)).mono ?_
  rintro e w1 ⟨p, cb, rfl, hbank, hc1, hp1, hcb1⟩
  have HB1 := hid hbank
  clear hbank
  go_wp2_with fail
  refine (rnew_ok w.heap.size (n + 6) (by omega) (by omega) w1 hc1.size).mono ?_
  rintro e w2 ⟨rp, vb, rfl, hrb, hc2, hp2, hvb2⟩
  have HB2 := hid (HB1.out.ch hc2 id id (fun _ _ => id))
  have HR2 := hid hrb
  clear hrb
  have hz : ∀ j, j < 4 + n → lk (List.replicate (n + 6) (0 : Int)) (1 + j) = 0 := fun j _ => lk_repF _ _
  have hfe : ferr (List.replicate (n + 6) (0 : Int)) (1 : Nat) (n : Nat) = 0 := ferr_0 ⟨hn1, by omega⟩ (by rw [List.length_replicate]; omega) hz
  go_wp2_with fail
  refine (fnew_any w.heap.size p cb _ ⟨List.replicate (n + 6) 0, []⟩ w2 1 n HB2.out (by show (List.replicate (n + 6) (0 : Int)).length ≤ 4096; rw [List.length_replicate]; omega)).mono ?_
  rintro e w3 ⟨hc3, hr3⟩
  rw [show ferr (⟨List.replicate (n + 6) 0, []⟩ : BS).vs 1 n = 0 from hfe] at hr3
  rcases hr3 with ⟨h, _⟩ | ⟨_, fb, hqb, rfl, hqd⟩
  · exact absurd rfl h
  have HB3 := hid (HB2.out.ch hc3 id id (fun _ _ => id))
  have HR3 := hid (HR2.out.ch hc3 id id (fun _ _ => id))
  have HQ3 := hid hqd
  clear hqd
  go_wp2_with fail
  refine (rfnew_any w.heap.size rp vb _ ⟨List.replicate (n + 6) 0, []⟩ w3 1 n HR3.out (by show (List.replicate (n + 6) (0 : Int)).length ≤ 4096; rw [List.length_replicate]; omega)).mono ?_
  rintro e w4 ⟨hc4, hr4⟩
  rw [show ferr (⟨List.replicate (n + 6) 0, []⟩ : BS).vs 1 n = 0 from hfe] at hr4
  rcases hr4 with ⟨h, _⟩ | ⟨_, rf, hrq, rfl, hrqd⟩
  · exact absurd rfl h
  have hok : FOk ⟨List.replicate (n + 6) 0, []⟩ ⟨1, n, 0, false, false⟩ := ⟨by show 1 + 4 + n ≤ (List.replicate (n + 6) (0 : Int)).length; rw [List.length_replicate]; omega, hn1, by show n ≤ 64; omega⟩
  have e1 : cHead ⟨List.replicate (n + 6) 0, []⟩ ⟨1, n, 0, false, false⟩ = 0 := lk_repF _ _
  have e2 : cTail ⟨List.replicate (n + 6) 0, []⟩ ⟨1, n, 0, false, false⟩ = 0 := lk_repF _ _
  have c12 : Ch (fun _ => False) w w2 := hc1.trans hc2 (fun _ _ h => h)
  have c13 : Ch (fun _ => False) w w3 := c12.trans hc3 (fun _ _ h => h)
  have c14 : Ch (fun _ => False) w w4 := c13.trans hc4 (fun _ _ h => h)
  have hI : FeedM w.heap.size w4 p cb fb (.slice none 0 0) ⟨List.replicate (n + 6) 0, []⟩ ⟨1, n, 0, false, false⟩ :=
    ⟨HB3.out.ch hc4 id id (fun _ _ => id), by have h := hc4.blk HQ3.out id; simpa [fdCells, fzero, e1, e2] using h, hok, Nat.le_trans c12.size hqb⟩
  have hR : RFeedM w.heap.size w4 rp vb rf (.slice none 0 0) ⟨List.replicate (n + 6) 0, []⟩ ⟨1, n, 0, false, false⟩ :=
    ⟨HR3.out.ch hc4 id id (fun _ _ => id), by simpa [rfdCells, rfzero] using hrqd, hok, Nat.le_trans c13.size hrq⟩
  have H0 := hid (fs_init (w1 := w) (w2 := w) (w3 := w) c14 hI hR)
  have HK0 := hid (fsk_init hn1 hn6)
  clear hI hR hrqd hok hc1 hc2 hc3 hc4 c12 c13 c14 hp1 hcb1 hp2 hvb2 hqb hrq HB1 HB2 HB3 HR2 HR3 HQ3 e1 e2 hfe hz
  go_wp2_with fail
  go_loopw [11, 12, 13, 14, 15] (fun s1 s2 s3 s4 i wr => ∃ j : Nat, j ≤ len ∧ i = .int .i64 j ∧ FsSo p cb fb rp vb rf n j s1 s2 s3 s4 w wr) (fun _ _ _ _ i _ => len - (intOf i).toNat)
  case atStart => exact ⟨0, Nat.zero_le _, rfl, _, _, none, none, rfl, rfl, rfl, rfl, HK0.out, H0.out⟩
  case round =>
    obtain ⟨j, hj, rfl, s, F, P, R, rfl, rfl, rfl, rfl, hK, hA⟩ := hrel
    have HH := hid hA
    have HK := hid hK
    clear hA hK
    by_cases hlt : j < len
    · have hxl := HE.out.1
      obtain ⟨b, off, rfl, hbl, hcell⟩ := HE.out.2.2 (by omega)
      obtain ⟨ev, hev⟩ : ∃ ev, xs[j]? = some ev := ⟨_, List.getElem?_eq_getElem (by omega)⟩
      have EK3 := hid (HE.out.2.1 ev (List.mem_of_getElem? hev))
      have c0 := (HH.out.bel.cell (p := ⟨b, off + j * 3, none⟩) hbl).trans (hcell j 0 ev _ hev rfl)
      have HC1 := hid (show ∀ W, Below w.heap.size w W → W.cell? ⟨b, off + j * 3 + 1, none⟩ = some (.int .i64 ev.t) from fun W hW => (hW.cell (p := ⟨b, off + j * 3 + 1, none⟩) hbl).trans (hcell j 1 ev _ hev rfl))
      have HC2 := hid (show ∀ W, Below w.heap.size w W → W.cell? ⟨b, off + j * 3 + 2, none⟩ = some (.int .u64 ev.v) from fun W hW => (hW.cell (p := ⟨b, off + j * 3 + 2, none⟩) hbl).trans (hcell j 2 ev _ hev rfl))
      have d1 : decide (j < len) = true := decide_eq_true hlt
      have d1' : decide ((j : Int) < (len : Int)) = true := decide_eq_true (by omega)
      clear hev hcell
      by_cases h0 : ev.d.tmod 5 = 0
      · have e0 : (ev.d.tmod 5 == 0) = true := by rw [beq_iff_eq]; exact h0
        clear h0
        as_aux_lemma =>
          have c1 := HC1.out _ HH.out.bel
          have c2 := HC2.out _ HH.out.bel
          by_cases hok : (0 ≤ ev.t ∧ ev.t < 16) ∧ F.last < ev.v
          · have HOK := hid hok
            clear hok
            have HV0 := hid (show ev.v ≠ 0 by have := HOK.out.2; have := HK.out.fi.last; omega)
            by_cases hpb : F.pushing = true
            · have HPB := hid hpb
              clear hpb
              go_wp2_with fail
              refine Mix.wp_region_mix (fun _ => True) (fun i => ([0, 0, 0, 0, 0, 0, 0, 0, 0, 0, 0, 2, 0, 0, 0, 0, 0] : List Nat).getD i 0) [0, 1, 2, 3, 4, 5, 6, 7, 8, 9, 10, 11, 12, 13, 14, 15, 16] (by kernel_rfl) (by kernel_rfl) ?_
              repeat (first | (refine Mix.mix_q (by simp only [List.getElem?_toArray, List.getElem?_cons_zero, List.getElem?_cons_succ]; exact rfl) rfl ?_; go_big_quiet_step (fail); refine wpQuiet_nil ?_) | (refine Mix.mix_p (by simp only [List.getElem?_toArray, List.getElem?_cons_zero, List.getElem?_cons_succ]; exact rfl) rfl rfl ?_; go_big_quiet_step (fail); refine wpQuiet_nil ?_))
              refine Mix.mix_e (by simp only [List.getElem?_toArray, List.getElem?_cons_zero, List.getElem?_cons_succ]; exact rfl) rfl fun W hW => ?_
              obtain ⟨n1, rfl⟩ := hW
              go_wp2_with fail
              refine calls_world fun Wa hWa => ?_
              have Ha := hid (show FsA _ _ _ _ _ _ _ _ _ _ _ _ _ _ _ w Wa by rw [hWa]; first | exact HH.out | exact FsA.drewN (HH.out) _ | exact FsA.drewN (FsA.drewN (HH.out) _) _)
              clear hWa
              refine (Ha.out.push_busy ev.t ev.v HOK.out.1 HOK.out.2 HPB.out).mono ?_
              rintro e Wa' ⟨rfl, rfl⟩
              clear c1 c2
              have c1 := HC1.out _ Ha.out.bel
              have c2 := HC2.out _ Ha.out.bel
              go_wp2_with fail
              repeat (first | (refine Mix.mix_q (by simp only [List.getElem?_toArray, List.getElem?_cons_zero, List.getElem?_cons_succ]; exact rfl) rfl ?_; go_big_quiet_step (fail); refine wpQuiet_nil ?_) | (refine Mix.mix_p (by simp only [List.getElem?_toArray, List.getElem?_cons_zero, List.getElem?_cons_succ]; exact rfl) rfl rfl ?_; go_big_quiet_step (fail); refine wpQuiet_nil ?_))
              intro n2
              go_wp2_with fail
              refine Mix.wp_region_mix (fun _ => True) (fun i => ([0, 0, 0, 0, 0, 0, 0, 0, 0, 0, 0, 2, 0, 0, 0, 0, 0] : List Nat).getD i 0) [0, 1, 2, 3, 4, 5, 6, 7, 8, 9, 10, 11, 12, 13, 14, 15, 16] (by kernel_rfl) (by kernel_rfl) ?_
              repeat (first | (refine Mix.mix_q (by simp only [List.getElem?_toArray, List.getElem?_cons_zero, List.getElem?_cons_succ]; exact rfl) rfl ?_; go_big_quiet_step (fail); refine wpQuiet_nil ?_) | (refine Mix.mix_p (by simp only [List.getElem?_toArray, List.getElem?_cons_zero, List.getElem?_cons_succ]; exact rfl) rfl rfl ?_; go_big_quiet_step (fail); refine wpQuiet_nil ?_))
              refine Mix.mix_e (by simp only [List.getElem?_toArray, List.getElem?_cons_zero, List.getElem?_cons_succ]; exact rfl) rfl fun W hW => ?_
              obtain ⟨n1, rfl⟩ := hW
              go_wp2_with fail
              refine calls_world fun Wb hWb => ?_
              have Hb := hid (show FsA _ _ _ _ _ _ _ _ _ _ _ _ _ _ _ w Wb by rw [hWb]; first | exact Ha.out | exact FsA.drewN (Ha.out) _ | exact FsA.drewN (FsA.drewN (Ha.out) _) _)
              clear hWb
              refine (Hb.out.rpush_busy ev.t ev.v HOK.out.1 HV0.out HOK.out.2 HPB.out).mono ?_
              rintro e Wb' ⟨rfl, rfl⟩
              clear c1 c2
              go_wp2_with fail
              repeat (first | (refine Mix.mix_q (by simp only [List.getElem?_toArray, List.getElem?_cons_zero, List.getElem?_cons_succ]; exact rfl) rfl ?_; go_big_quiet_step (fail); refine wpQuiet_nil ?_) | (refine Mix.mix_p (by simp only [List.getElem?_toArray, List.getElem?_cons_zero, List.getElem?_cons_succ]; exact rfl) rfl rfl ?_; go_big_quiet_step (fail); refine wpQuiet_nil ?_))
              intro n4
              have HZ := hid (Hb.out.drewN n4)
              obtain ⟨ro, hro⟩ : ∃ ro, ro = rOutc R := ⟨_, rfl⟩
              have br1 : (ro.1 != ro.1) = false := by simp
              have br2 : (ro.2.1 != ro.2.1) = false := by simp
              have br3 : (ro.2.2 != ro.2.2) = false := by simp
              have bp1 : (pPh P != pPh P) = false := by simp
              have bp2 : (rPh R != rPh R) = false := by simp
              have bp3 : ((cAct s F != 0) != (cAct s F != 0)) = false := by simp
              have bp4 : (cLag s F != cLag s F) = false := by simp
              have HRO := hid hro
              clear hro
              go_wp2_with fail
              refine (HZ.out.res).mono ?_
              rintro e Wa ⟨rfl, ha⟩
              rw [← HRO.out]
              have HA1 := hid ha
              clear ha
              go_wp2_with fail
              refine (HA1.out.rres (HK.out.mono (by omega) (by omega))).mono ?_
              rintro e Wb ⟨rfl, ha⟩
              rw [← HRO.out]
              have HA2 := hid ha
              clear ha
              go_wp2_with fail
              refine (HA2.out.pnext).mono ?_
              rintro e Wc ⟨rfl, ha⟩
              have HA3 := hid ha
              clear ha
              go_wp2_with fail
              refine (HA3.out.rpnext).mono ?_
              rintro e Wd ⟨rfl, ha⟩
              have HA4 := hid ha
              clear ha
              go_wp2_with fail
              refine (HA4.out.rnext).mono ?_
              rintro e We ⟨rfl, ha⟩
              have HA5 := hid ha
              clear ha
              go_wp2_with fail
              refine (HA5.out.rrnext).mono ?_
              rintro e Wf ⟨rfl, ha⟩
              have HA6 := hid ha
              clear ha
              go_wp2_with fail
              refine (HA6.out.active).mono ?_
              rintro e Wg ⟨rfl, ha⟩
              have HA7 := hid ha
              clear ha
              go_wp2_with fail
              refine (HA7.out.ractive).mono ?_
              rintro e Wh ⟨rfl, ha⟩
              have HA8 := hid ha
              clear ha
              go_wp2_with fail
              refine (HA8.out.lag).mono ?_
              rintro e Wi ⟨rfl, ha⟩
              have HA9 := hid ha
              clear ha
              go_wp2_with fail
              refine (HA9.out.rlag).mono ?_
              rintro e Wj ⟨rfl, ha⟩
              have HA10 := hid ha
              clear ha
              go_wp2_with fail
              refine (HA10.out.list (HK.out.mono (by omega) (by omega))).mono ?_
              rintro e Wk ⟨v1, rfl, hr1, ha⟩
              obtain ⟨B1, k1, hv1, _⟩ := own_slice hr1
              subst hv1
              have HA11 := hid ha
              have HR1 := hid hr1
              clear ha hr1
              go_wp2_with fail
              refine (HA11.out.rlist (HK.out.mono (by omega) (by omega))).mono ?_
              rintro e Wl ⟨v2, rfl, hr2, c2⟩
              obtain ⟨B2, k2, hv2, _⟩ := own_slice hr2
              subst hv2
              have HA12 := hid (HA11.out.keep c2)
              have HR1b := hid (c2.own HR1.out (fun _ _ => id))
              have HR2 := hid hr2
              clear hr2 c2
              go_wp2_with fail
              refine (eqWords_any _ _ _ _ _ _ _ _ Wl (row_wordsF HR1b.out) (row_wordsF HR2.out) (flist_len (HK.out.mono (by omega) (by omega)))).mono ?_
              rintro e Wm ⟨he, n5, rfl⟩
              rw [decide_eq_true rfl] at he
              subst he
              go_wp2_with fail
              go_roundw
              case rel => exact ⟨j + 1, by omega, by go_num, _, _, _, _, rfl, rfl, rfl, rfl, (HK.out.mono (by omega) (by omega)), HA12.out.drewN n5⟩
              case measure => simp [intOf]; omega
            · have HPB := hid (show F.pushing = false by simpa using hpb)
              clear hpb
              go_wp2_with fail
              refine Mix.wp_region_mix (fun _ => True) (fun i => ([0, 0, 0, 0, 0, 0, 0, 0, 0, 0, 0, 2, 0, 0, 0, 0, 0] : List Nat).getD i 0) [0, 1, 2, 3, 4, 5, 6, 7, 8, 9, 10, 11, 12, 13, 14, 15, 16] (by kernel_rfl) (by kernel_rfl) ?_
              repeat (first | (refine Mix.mix_q (by simp only [List.getElem?_toArray, List.getElem?_cons_zero, List.getElem?_cons_succ]; exact rfl) rfl ?_; go_big_quiet_step (fail); refine wpQuiet_nil ?_) | (refine Mix.mix_p (by simp only [List.getElem?_toArray, List.getElem?_cons_zero, List.getElem?_cons_succ]; exact rfl) rfl rfl ?_; go_big_quiet_step (fail); refine wpQuiet_nil ?_))
              refine Mix.mix_e (by simp only [List.getElem?_toArray, List.getElem?_cons_zero, List.getElem?_cons_succ]; exact rfl) rfl fun W hW => ?_
              obtain ⟨n1, rfl⟩ := hW
              go_wp2_with fail
              refine calls_world fun Wa hWa => ?_
              have Ha := hid (show FsA _ _ _ _ _ _ _ _ _ _ _ _ _ _ _ w Wa by rw [hWa]; first | exact HH.out | exact FsA.drewN (HH.out) _ | exact FsA.drewN (FsA.drewN (HH.out) _) _)
              clear hWa
              refine (Ha.out.push ev.t ev.v HOK.out.1 HOK.out.2 HPB.out).mono ?_
              rintro e Wa' ⟨g, rfl, hx⟩
              have HX := hid hx
              clear hx c1 c2
              have c1 := HC1.out _ HX.out.bel
              have c2 := HC2.out _ HX.out.bel
              go_wp2_with fail
              repeat (first | (refine Mix.mix_q (by simp only [List.getElem?_toArray, List.getElem?_cons_zero, List.getElem?_cons_succ]; exact rfl) rfl ?_; go_big_quiet_step (fail); refine wpQuiet_nil ?_) | (refine Mix.mix_p (by simp only [List.getElem?_toArray, List.getElem?_cons_zero, List.getElem?_cons_succ]; exact rfl) rfl rfl ?_; go_big_quiet_step (fail); refine wpQuiet_nil ?_))
              intro n2
              go_wp2_with fail
              refine Mix.wp_region_mix (fun _ => True) (fun i => ([0, 0, 0, 0, 0, 0, 0, 0, 0, 0, 0, 2, 0, 0, 0, 0, 0] : List Nat).getD i 0) [0, 1, 2, 3, 4, 5, 6, 7, 8, 9, 10, 11, 12, 13, 14, 15, 16] (by kernel_rfl) (by kernel_rfl) ?_
              repeat (first | (refine Mix.mix_q (by simp only [List.getElem?_toArray, List.getElem?_cons_zero, List.getElem?_cons_succ]; exact rfl) rfl ?_; go_big_quiet_step (fail); refine wpQuiet_nil ?_) | (refine Mix.mix_p (by simp only [List.getElem?_toArray, List.getElem?_cons_zero, List.getElem?_cons_succ]; exact rfl) rfl rfl ?_; go_big_quiet_step (fail); refine wpQuiet_nil ?_))
              refine Mix.mix_e (by simp only [List.getElem?_toArray, List.getElem?_cons_zero, List.getElem?_cons_succ]; exact rfl) rfl fun W hW => ?_
              obtain ⟨n1, rfl⟩ := hW
              go_wp2_with fail
              refine calls_world fun Wb hWb => ?_
              have Hb := hid (show FsA _ _ _ _ _ _ _ _ _ _ _ _ _ _ _ w Wb by rw [hWb]; first | exact HX.out | exact FsA.drewN (HX.out) _ | exact FsA.drewN (FsA.drewN (HX.out) _) _)
              clear hWb
              refine (Hb.out.rpush ev.t ev.v HOK.out.1 HV0.out HOK.out.2 HPB.out).mono ?_
              rintro e Wb' ⟨g', rfl, hx⟩
              have HY := hid hx
              clear hx c1 c2
              go_wp2_with fail
              repeat (first | (refine Mix.mix_q (by simp only [List.getElem?_toArray, List.getElem?_cons_zero, List.getElem?_cons_succ]; exact rfl) rfl ?_; go_big_quiet_step (fail); refine wpQuiet_nil ?_) | (refine Mix.mix_p (by simp only [List.getElem?_toArray, List.getElem?_cons_zero, List.getElem?_cons_succ]; exact rfl) rfl rfl ?_; go_big_quiet_step (fail); refine wpQuiet_nil ?_))
              intro n4
              have HZ := hid (show FsA w.heap.size p cb fb rp vb rf s { F with last := ev.v, pushing := true } (some (g, g', ⟨ev.t, 26, ev.v, 0⟩)) R s { F with last := ev.v, pushing := true } (some (g, g', ⟨ev.t, 26, ev.v, 0⟩)) R w (Wb'.drewN n4) from HY.out.drewN n4)
              have HKZ := hid ((HK.out.push (v := ev.v) g g' HOK.out.1 EK3.out).mono (M' := j + 1) (by omega) (by omega))
              obtain ⟨ro, hro⟩ : ∃ ro, ro = rOutc R := ⟨_, rfl⟩
              have br1 : (ro.1 != ro.1) = false := by simp
              have br2 : (ro.2.1 != ro.2.1) = false := by simp
              have br3 : (ro.2.2 != ro.2.2) = false := by simp
              have bp1 : (pPh (some (g, g', ⟨ev.t, 26, ev.v, 0⟩)) != pPh (some (g, g', ⟨ev.t, 26, ev.v, 0⟩))) = false := by simp
              have bp2 : (rPh R != rPh R) = false := by simp
              have bp3 : ((cAct s { F with last := ev.v, pushing := true } != 0) != (cAct s { F with last := ev.v, pushing := true } != 0)) = false := by simp
              have bp4 : (cLag s { F with last := ev.v, pushing := true } != cLag s { F with last := ev.v, pushing := true }) = false := by simp
              have HRO := hid hro
              clear hro
              go_wp2_with fail
              refine (HZ.out.res).mono ?_
              rintro e Wa ⟨rfl, ha⟩
              rw [← HRO.out]
              have HA1 := hid ha
              clear ha
              go_wp2_with fail
              refine (HA1.out.rres HKZ.out).mono ?_
              rintro e Wb ⟨rfl, ha⟩
              rw [← HRO.out]
              have HA2 := hid ha
              clear ha
              go_wp2_with fail
              refine (HA2.out.pnext).mono ?_
              rintro e Wc ⟨rfl, ha⟩
              have HA3 := hid ha
              clear ha
              go_wp2_with fail
              refine (HA3.out.rpnext).mono ?_
              rintro e Wd ⟨rfl, ha⟩
              have HA4 := hid ha
              clear ha
              go_wp2_with fail
              refine (HA4.out.rnext).mono ?_
              rintro e We ⟨rfl, ha⟩
              have HA5 := hid ha
              clear ha
              go_wp2_with fail
              refine (HA5.out.rrnext).mono ?_
              rintro e Wf ⟨rfl, ha⟩
              have HA6 := hid ha
              clear ha
              go_wp2_with fail
              refine (HA6.out.active).mono ?_
              rintro e Wg ⟨rfl, ha⟩
              have HA7 := hid ha
              clear ha
              go_wp2_with fail
              refine (HA7.out.ractive).mono ?_
              rintro e Wh ⟨rfl, ha⟩
              have HA8 := hid ha
              clear ha
              go_wp2_with fail
              refine (HA8.out.lag).mono ?_
              rintro e Wi ⟨rfl, ha⟩
              have HA9 := hid ha
              clear ha
              go_wp2_with fail
              refine (HA9.out.rlag).mono ?_
              rintro e Wj ⟨rfl, ha⟩
              have HA10 := hid ha
              clear ha
              go_wp2_with fail
              refine (HA10.out.list HKZ.out).mono ?_
              rintro e Wk ⟨v1, rfl, hr1, ha⟩
              obtain ⟨B1, k1, hv1, _⟩ := own_slice hr1
              subst hv1
              have HA11 := hid ha
              have HR1 := hid hr1
              clear ha hr1
              go_wp2_with fail
              refine (HA11.out.rlist HKZ.out).mono ?_
              rintro e Wl ⟨v2, rfl, hr2, c2⟩
              obtain ⟨B2, k2, hv2, _⟩ := own_slice hr2
              subst hv2
              have HA12 := hid (HA11.out.keep c2)
              have HR1b := hid (c2.own HR1.out (fun _ _ => id))
              have HR2 := hid hr2
              clear hr2 c2
              go_wp2_with fail
              refine (eqWords_any _ _ _ _ _ _ _ _ Wl (row_wordsF HR1b.out) (row_wordsF HR2.out) (flist_len HKZ.out)).mono ?_
              rintro e Wm ⟨he, n5, rfl⟩
              rw [decide_eq_true rfl] at he
              subst he
              go_wp2_with fail
              go_roundw
              case rel => exact ⟨j + 1, by omega, by go_num, _, _, _, _, rfl, rfl, rfl, rfl, HKZ.out, HA12.out.drewN n5⟩
              case measure => simp [intOf]; omega
          · have HBAD := hid (show ¬ (0 ≤ ev.t ∧ ev.t < 16) ∨ ev.v ≤ F.last by omega)
            clear hok
            go_wp2_with fail
            refine Mix.wp_region_mix (fun _ => True) (fun i => ([0, 0, 0, 0, 0, 0, 0, 0, 0, 0, 0, 2, 0, 0, 0, 0, 0] : List Nat).getD i 0) [0, 1, 2, 3, 4, 5, 6, 7, 8, 9, 10, 11, 12, 13, 14, 15, 16] (by kernel_rfl) (by kernel_rfl) ?_
            repeat (first | (refine Mix.mix_q (by simp only [List.getElem?_toArray, List.getElem?_cons_zero, List.getElem?_cons_succ]; exact rfl) rfl ?_; go_big_quiet_step (fail); refine wpQuiet_nil ?_) | (refine Mix.mix_p (by simp only [List.getElem?_toArray, List.getElem?_cons_zero, List.getElem?_cons_succ]; exact rfl) rfl rfl ?_; go_big_quiet_step (fail); refine wpQuiet_nil ?_))
            refine Mix.mix_e (by simp only [List.getElem?_toArray, List.getElem?_cons_zero, List.getElem?_cons_succ]; exact rfl) rfl fun W hW => ?_
            obtain ⟨n1, rfl⟩ := hW
            go_wp2_with fail
            refine calls_world fun Wa hWa => ?_
            have Ha := hid (show FsA _ _ _ _ _ _ _ _ _ _ _ _ _ _ _ w Wa by rw [hWa]; first | exact HH.out | exact FsA.drewN (HH.out) _ | exact FsA.drewN (FsA.drewN (HH.out) _) _)
            clear hWa
            refine (Ha.out.push_arg ev.t ev.v HBAD.out).mono ?_
            rintro e Wa' ⟨rfl, rfl⟩
            clear c1 c2
            have c1 := HC1.out _ Ha.out.bel
            have c2 := HC2.out _ Ha.out.bel
            go_wp2_with fail
            repeat (first | (refine Mix.mix_q (by simp only [List.getElem?_toArray, List.getElem?_cons_zero, List.getElem?_cons_succ]; exact rfl) rfl ?_; go_big_quiet_step (fail); refine wpQuiet_nil ?_) | (refine Mix.mix_p (by simp only [List.getElem?_toArray, List.getElem?_cons_zero, List.getElem?_cons_succ]; exact rfl) rfl rfl ?_; go_big_quiet_step (fail); refine wpQuiet_nil ?_))
            intro n2
            go_wp2_with fail
            refine Mix.wp_region_mix (fun _ => True) (fun i => ([0, 0, 0, 0, 0, 0, 0, 0, 0, 0, 0, 2, 0, 0, 0, 0, 0] : List Nat).getD i 0) [0, 1, 2, 3, 4, 5, 6, 7, 8, 9, 10, 11, 12, 13, 14, 15, 16] (by kernel_rfl) (by kernel_rfl) ?_
            repeat (first | (refine Mix.mix_q (by simp only [List.getElem?_toArray, List.getElem?_cons_zero, List.getElem?_cons_succ]; exact rfl) rfl ?_; go_big_quiet_step (fail); refine wpQuiet_nil ?_) | (refine Mix.mix_p (by simp only [List.getElem?_toArray, List.getElem?_cons_zero, List.getElem?_cons_succ]; exact rfl) rfl rfl ?_; go_big_quiet_step (fail); refine wpQuiet_nil ?_))
            refine Mix.mix_e (by simp only [List.getElem?_toArray, List.getElem?_cons_zero, List.getElem?_cons_succ]; exact rfl) rfl fun W hW => ?_
            obtain ⟨n1, rfl⟩ := hW
            go_wp2_with fail
            refine calls_world fun Wb hWb => ?_
            have Hb := hid (show FsA _ _ _ _ _ _ _ _ _ _ _ _ _ _ _ w Wb by rw [hWb]; first | exact Ha.out | exact FsA.drewN (Ha.out) _ | exact FsA.drewN (FsA.drewN (Ha.out) _) _)
            clear hWb
            refine (Hb.out.rpush_arg ev.t ev.v (HBAD.out.imp id (fun h => .inr h))).mono ?_
            rintro e Wb' ⟨rfl, rfl⟩
            clear c1 c2
            go_wp2_with fail
            repeat (first | (refine Mix.mix_q (by simp only [List.getElem?_toArray, List.getElem?_cons_zero, List.getElem?_cons_succ]; exact rfl) rfl ?_; go_big_quiet_step (fail); refine wpQuiet_nil ?_) | (refine Mix.mix_p (by simp only [List.getElem?_toArray, List.getElem?_cons_zero, List.getElem?_cons_succ]; exact rfl) rfl rfl ?_; go_big_quiet_step (fail); refine wpQuiet_nil ?_))
            intro n4
            have HZ := hid (Hb.out.drewN n4)
            obtain ⟨ro, hro⟩ : ∃ ro, ro = rOutc R := ⟨_, rfl⟩
            have br1 : (ro.1 != ro.1) = false := by simp
            have br2 : (ro.2.1 != ro.2.1) = false := by simp
            have br3 : (ro.2.2 != ro.2.2) = false := by simp
            have bp1 : (pPh P != pPh P) = false := by simp
            have bp2 : (rPh R != rPh R) = false := by simp
            have bp3 : ((cAct s F != 0) != (cAct s F != 0)) = false := by simp
            have bp4 : (cLag s F != cLag s F) = false := by simp
            have HRO := hid hro
            clear hro
            go_wp2_with fail
            refine (HZ.out.res).mono ?_
            rintro e Wa ⟨rfl, ha⟩
            rw [← HRO.out]
            have HA1 := hid ha
            clear ha
            go_wp2_with fail
            refine (HA1.out.rres (HK.out.mono (by omega) (by omega))).mono ?_
            rintro e Wb ⟨rfl, ha⟩
            rw [← HRO.out]
            have HA2 := hid ha
            clear ha
            go_wp2_with fail
            refine (HA2.out.pnext).mono ?_
            rintro e Wc ⟨rfl, ha⟩
            have HA3 := hid ha
            clear ha
            go_wp2_with fail
            refine (HA3.out.rpnext).mono ?_
            rintro e Wd ⟨rfl, ha⟩
            have HA4 := hid ha
            clear ha
            go_wp2_with fail
            refine (HA4.out.rnext).mono ?_
            rintro e We ⟨rfl, ha⟩
            have HA5 := hid ha
            clear ha
            go_wp2_with fail
            refine (HA5.out.rrnext).mono ?_
            rintro e Wf ⟨rfl, ha⟩
            have HA6 := hid ha
            clear ha
            go_wp2_with fail
            refine (HA6.out.active).mono ?_
            rintro e Wg ⟨rfl, ha⟩
            have HA7 := hid ha
            clear ha
            go_wp2_with fail
            refine (HA7.out.ractive).mono ?_
            rintro e Wh ⟨rfl, ha⟩
            have HA8 := hid ha
            clear ha
            go_wp2_with fail
            refine (HA8.out.lag).mono ?_
            rintro e Wi ⟨rfl, ha⟩
            have HA9 := hid ha
            clear ha
            go_wp2_with fail
            refine (HA9.out.rlag).mono ?_
            rintro e Wj ⟨rfl, ha⟩
            have HA10 := hid ha
            clear ha
            go_wp2_with fail
            refine (HA10.out.list (HK.out.mono (by omega) (by omega))).mono ?_
            rintro e Wk ⟨v1, rfl, hr1, ha⟩
            obtain ⟨B1, k1, hv1, _⟩ := own_slice hr1
            subst hv1
            have HA11 := hid ha
            have HR1 := hid hr1
            clear ha hr1
            go_wp2_with fail
            refine (HA11.out.rlist (HK.out.mono (by omega) (by omega))).mono ?_
            rintro e Wl ⟨v2, rfl, hr2, c2⟩
            obtain ⟨B2, k2, hv2, _⟩ := own_slice hr2
            subst hv2
            have HA12 := hid (HA11.out.keep c2)
            have HR1b := hid (c2.own HR1.out (fun _ _ => id))
            have HR2 := hid hr2
            clear hr2 c2
            go_wp2_with fail
            refine (eqWords_any _ _ _ _ _ _ _ _ Wl (row_wordsF HR1b.out) (row_wordsF HR2.out) (flist_len (HK.out.mono (by omega) (by omega)))).mono ?_
            rintro e Wm ⟨he, n5, rfl⟩
            rw [decide_eq_true rfl] at he
            subst he
            go_wp2_with fail
            go_roundw
            case rel => exact ⟨j + 1, by omega, by go_num, _, _, _, _, rfl, rfl, rfl, rfl, (HK.out.mono (by omega) (by omega)), HA12.out.drewN n5⟩
            case measure => simp [intOf]; omega
      have e0 : (ev.d.tmod 5 == 0) = false := by rw [beq_eq_false_iff_ne]; exact h0
      by_cases h1 : ev.d.tmod 5 = 1
      · have e1 : (ev.d.tmod 5 == 1) = true := by rw [beq_iff_eq]; exact h1
        clear h0 h1
        as_aux_lemma =>
          have c1 := HC1.out _ HH.out.bel
          have c2 := HC2.out _ HH.out.bel
          by_cases hok : 0 ≤ ev.t ∧ ev.t < 16
          · have HOK := hid hok
            clear hok
            by_cases hpb : F.receiving = true
            · have HPB := hid hpb
              clear hpb
              go_wp2_with fail
              refine Mix.wp_region_mix (fun _ => True) (fun i => ([0, 0, 0, 0, 0, 0, 0, 0, 0, 0, 0, 2, 0, 0, 0, 0, 0] : List Nat).getD i 0) [0, 1, 2, 3, 4, 5, 6, 7, 8, 9, 10, 11, 12, 13, 14, 15, 16] (by kernel_rfl) (by kernel_rfl) ?_
              repeat (first | (refine Mix.mix_q (by simp only [List.getElem?_toArray, List.getElem?_cons_zero, List.getElem?_cons_succ]; exact rfl) rfl ?_; go_big_quiet_step (fail); refine wpQuiet_nil ?_) | (refine Mix.mix_p (by simp only [List.getElem?_toArray, List.getElem?_cons_zero, List.getElem?_cons_succ]; exact rfl) rfl rfl ?_; go_big_quiet_step (fail); refine wpQuiet_nil ?_))
              refine Mix.mix_e (by simp only [List.getElem?_toArray, List.getElem?_cons_zero, List.getElem?_cons_succ]; exact rfl) rfl fun W hW => ?_
              obtain ⟨n1, rfl⟩ := hW
              go_wp2_with fail
              refine calls_world fun Wa hWa => ?_
              have Ha := hid (show FsA _ _ _ _ _ _ _ _ _ _ _ _ _ _ _ w Wa by rw [hWa]; first | exact HH.out | exact FsA.drewN (HH.out) _ | exact FsA.drewN (FsA.drewN (HH.out) _) _)
              clear hWa
              refine (Ha.out.recv_busy ev.t ev.v HOK.out HPB.out).mono ?_
              rintro e Wa' ⟨rfl, rfl⟩
              clear c1 c2
              have c1 := HC1.out _ Ha.out.bel
              have c2 := HC2.out _ Ha.out.bel
              go_wp2_with fail
              repeat (first | (refine Mix.mix_q (by simp only [List.getElem?_toArray, List.getElem?_cons_zero, List.getElem?_cons_succ]; exact rfl) rfl ?_; go_big_quiet_step (fail); refine wpQuiet_nil ?_) | (refine Mix.mix_p (by simp only [List.getElem?_toArray, List.getElem?_cons_zero, List.getElem?_cons_succ]; exact rfl) rfl rfl ?_; go_big_quiet_step (fail); refine wpQuiet_nil ?_))
              intro n2
              go_wp2_with fail
              refine Mix.wp_region_mix (fun _ => True) (fun i => ([0, 0, 0, 0, 0, 0, 0, 0, 0, 0, 0, 2, 0, 0, 0, 0, 0] : List Nat).getD i 0) [0, 1, 2, 3, 4, 5, 6, 7, 8, 9, 10, 11, 12, 13, 14, 15, 16] (by kernel_rfl) (by kernel_rfl) ?_
              repeat (first | (refine Mix.mix_q (by simp only [List.getElem?_toArray, List.getElem?_cons_zero, List.getElem?_cons_succ]; exact rfl) rfl ?_; go_big_quiet_step (fail); refine wpQuiet_nil ?_) | (refine Mix.mix_p (by simp only [List.getElem?_toArray, List.getElem?_cons_zero, List.getElem?_cons_succ]; exact rfl) rfl rfl ?_; go_big_quiet_step (fail); refine wpQuiet_nil ?_))
              refine Mix.mix_e (by simp only [List.getElem?_toArray, List.getElem?_cons_zero, List.getElem?_cons_succ]; exact rfl) rfl fun W hW => ?_
              obtain ⟨n1, rfl⟩ := hW
              go_wp2_with fail
              refine calls_world fun Wb hWb => ?_
              have Hb := hid (show FsA _ _ _ _ _ _ _ _ _ _ _ _ _ _ _ w Wb by rw [hWb]; first | exact Ha.out | exact FsA.drewN (Ha.out) _ | exact FsA.drewN (FsA.drewN (Ha.out) _) _)
              clear hWb
              refine (Hb.out.rrecv_busy ev.t ev.v HOK.out HPB.out).mono ?_
              rintro e Wb' ⟨rfl, rfl⟩
              clear c1 c2
              go_wp2_with fail
              repeat (first | (refine Mix.mix_q (by simp only [List.getElem?_toArray, List.getElem?_cons_zero, List.getElem?_cons_succ]; exact rfl) rfl ?_; go_big_quiet_step (fail); refine wpQuiet_nil ?_) | (refine Mix.mix_p (by simp only [List.getElem?_toArray, List.getElem?_cons_zero, List.getElem?_cons_succ]; exact rfl) rfl rfl ?_; go_big_quiet_step (fail); refine wpQuiet_nil ?_))
              intro n4
              have HZ := hid (Hb.out.drewN n4)
              obtain ⟨ro, hro⟩ : ∃ ro, ro = rOutc R := ⟨_, rfl⟩
              have br1 : (ro.1 != ro.1) = false := by simp
              have br2 : (ro.2.1 != ro.2.1) = false := by simp
              have br3 : (ro.2.2 != ro.2.2) = false := by simp
              have bp1 : (pPh P != pPh P) = false := by simp
              have bp2 : (rPh R != rPh R) = false := by simp
              have bp3 : ((cAct s F != 0) != (cAct s F != 0)) = false := by simp
              have bp4 : (cLag s F != cLag s F) = false := by simp
              have HRO := hid hro
              clear hro
              go_wp2_with fail
              refine (HZ.out.res).mono ?_
              rintro e Wa ⟨rfl, ha⟩
              rw [← HRO.out]
              have HA1 := hid ha
              clear ha
              go_wp2_with fail
              refine (HA1.out.rres (HK.out.mono (by omega) (by omega))).mono ?_
              rintro e Wb ⟨rfl, ha⟩
              rw [← HRO.out]
              have HA2 := hid ha
              clear ha
              go_wp2_with fail
              refine (HA2.out.pnext).mono ?_
              rintro e Wc ⟨rfl, ha⟩
              have HA3 := hid ha
              clear ha
              go_wp2_with fail
              refine (HA3.out.rpnext).mono ?_
              rintro e Wd ⟨rfl, ha⟩
              have HA4 := hid ha
              clear ha
              go_wp2_with fail
              refine (HA4.out.rnext).mono ?_
              rintro e We ⟨rfl, ha⟩
              have HA5 := hid ha
              clear ha
              go_wp2_with fail
              refine (HA5.out.rrnext).mono ?_
              rintro e Wf ⟨rfl, ha⟩
              have HA6 := hid ha
              clear ha
              go_wp2_with fail
              refine (HA6.out.active).mono ?_
              rintro e Wg ⟨rfl, ha⟩
              have HA7 := hid ha
              clear ha
              go_wp2_with fail
              refine (HA7.out.ractive).mono ?_
              rintro e Wh ⟨rfl, ha⟩
              have HA8 := hid ha
              clear ha
              go_wp2_with fail
              refine (HA8.out.lag).mono ?_
              rintro e Wi ⟨rfl, ha⟩
              have HA9 := hid ha
              clear ha
              go_wp2_with fail
              refine (HA9.out.rlag).mono ?_
              rintro e Wj ⟨rfl, ha⟩
              have HA10 := hid ha
              clear ha
              go_wp2_with fail
              refine (HA10.out.list (HK.out.mono (by omega) (by omega))).mono ?_
              rintro e Wk ⟨v1, rfl, hr1, ha⟩
              obtain ⟨B1, k1, hv1, _⟩ := own_slice hr1
              subst hv1
              have HA11 := hid ha
              have HR1 := hid hr1
              clear ha hr1
              go_wp2_with fail
              refine (HA11.out.rlist (HK.out.mono (by omega) (by omega))).mono ?_
              rintro e Wl ⟨v2, rfl, hr2, c2⟩
              obtain ⟨B2, k2, hv2, _⟩ := own_slice hr2
              subst hv2
              have HA12 := hid (HA11.out.keep c2)
              have HR1b := hid (c2.own HR1.out (fun _ _ => id))
              have HR2 := hid hr2
              clear hr2 c2
              go_wp2_with fail
              refine (eqWords_any _ _ _ _ _ _ _ _ Wl (row_wordsF HR1b.out) (row_wordsF HR2.out) (flist_len (HK.out.mono (by omega) (by omega)))).mono ?_
              rintro e Wm ⟨he, n5, rfl⟩
              rw [decide_eq_true rfl] at he
              subst he
              go_wp2_with fail
              go_roundw
              case rel => exact ⟨j + 1, by omega, by go_num, _, _, _, _, rfl, rfl, rfl, rfl, (HK.out.mono (by omega) (by omega)), HA12.out.drewN n5⟩
              case measure => simp [intOf]; omega
            · have HPB := hid (show F.receiving = false by simpa using hpb)
              clear hpb
              go_wp2_with fail
              refine Mix.wp_region_mix (fun _ => True) (fun i => ([0, 0, 0, 0, 0, 0, 0, 0, 0, 0, 0, 2, 0, 0, 0, 0, 0] : List Nat).getD i 0) [0, 1, 2, 3, 4, 5, 6, 7, 8, 9, 10, 11, 12, 13, 14, 15, 16] (by kernel_rfl) (by kernel_rfl) ?_
              repeat (first | (refine Mix.mix_q (by simp only [List.getElem?_toArray, List.getElem?_cons_zero, List.getElem?_cons_succ]; exact rfl) rfl ?_; go_big_quiet_step (fail); refine wpQuiet_nil ?_) | (refine Mix.mix_p (by simp only [List.getElem?_toArray, List.getElem?_cons_zero, List.getElem?_cons_succ]; exact rfl) rfl rfl ?_; go_big_quiet_step (fail); refine wpQuiet_nil ?_))
              refine Mix.mix_e (by simp only [List.getElem?_toArray, List.getElem?_cons_zero, List.getElem?_cons_succ]; exact rfl) rfl fun W hW => ?_
              obtain ⟨n1, rfl⟩ := hW
              go_wp2_with fail
              refine calls_world fun Wa hWa => ?_
              have Ha := hid (show FsA _ _ _ _ _ _ _ _ _ _ _ _ _ _ _ w Wa by rw [hWa]; first | exact HH.out | exact FsA.drewN (HH.out) _ | exact FsA.drewN (FsA.drewN (HH.out) _) _)
              clear hWa
              refine (Ha.out.recv ev.t ev.v HOK.out HPB.out).mono ?_
              rintro e Wa' ⟨g, rfl, hx⟩
              have HX := hid hx
              clear hx c1 c2
              have c1 := HC1.out _ HX.out.bel
              have c2 := HC2.out _ HX.out.bel
              go_wp2_with fail
              repeat (first | (refine Mix.mix_q (by simp only [List.getElem?_toArray, List.getElem?_cons_zero, List.getElem?_cons_succ]; exact rfl) rfl ?_; go_big_quiet_step (fail); refine wpQuiet_nil ?_) | (refine Mix.mix_p (by simp only [List.getElem?_toArray, List.getElem?_cons_zero, List.getElem?_cons_succ]; exact rfl) rfl rfl ?_; go_big_quiet_step (fail); refine wpQuiet_nil ?_))
              intro n2
              go_wp2_with fail
              refine Mix.wp_region_mix (fun _ => True) (fun i => ([0, 0, 0, 0, 0, 0, 0, 0, 0, 0, 0, 2, 0, 0, 0, 0, 0] : List Nat).getD i 0) [0, 1, 2, 3, 4, 5, 6, 7, 8, 9, 10, 11, 12, 13, 14, 15, 16] (by kernel_rfl) (by kernel_rfl) ?_
              repeat (first | (refine Mix.mix_q (by simp only [List.getElem?_toArray, List.getElem?_cons_zero, List.getElem?_cons_succ]; exact rfl) rfl ?_; go_big_quiet_step (fail); refine wpQuiet_nil ?_) | (refine Mix.mix_p (by simp only [List.getElem?_toArray, List.getElem?_cons_zero, List.getElem?_cons_succ]; exact rfl) rfl rfl ?_; go_big_quiet_step (fail); refine wpQuiet_nil ?_))
              refine Mix.mix_e (by simp only [List.getElem?_toArray, List.getElem?_cons_zero, List.getElem?_cons_succ]; exact rfl) rfl fun W hW => ?_
              obtain ⟨n1, rfl⟩ := hW
              go_wp2_with fail
              refine calls_world fun Wb hWb => ?_
              have Hb := hid (show FsA _ _ _ _ _ _ _ _ _ _ _ _ _ _ _ w Wb by rw [hWb]; first | exact HX.out | exact FsA.drewN (HX.out) _ | exact FsA.drewN (FsA.drewN (HX.out) _) _)
              clear hWb
              refine (Hb.out.rrecv ev.t ev.v HOK.out HPB.out).mono ?_
              rintro e Wb' ⟨g', rfl, hx⟩
              have HY := hid hx
              clear hx c1 c2
              go_wp2_with fail
              repeat (first | (refine Mix.mix_q (by simp only [List.getElem?_toArray, List.getElem?_cons_zero, List.getElem?_cons_succ]; exact rfl) rfl ?_; go_big_quiet_step (fail); refine wpQuiet_nil ?_) | (refine Mix.mix_p (by simp only [List.getElem?_toArray, List.getElem?_cons_zero, List.getElem?_cons_succ]; exact rfl) rfl rfl ?_; go_big_quiet_step (fail); refine wpQuiet_nil ?_))
              intro n4
              have HZ := hid (show FsA w.heap.size p cb fb rp vb rf s { F with receiving := true } P (some (g, g', ⟨ev.t, 14, ev.v, 0, 0, false, 0⟩, 0)) s { F with receiving := true } P (some (g, g', ⟨ev.t, 14, ev.v, 0, 0, false, 0⟩, 0)) w (Wb'.drewN n4) from HY.out.drewN n4)
              have HKZ := hid ((HK.out.recv (v := ev.v) g g' HOK.out).mono (M' := j + 1) (by omega) (by omega))
              obtain ⟨ro, hro⟩ : ∃ ro, ro = rOutc (some (g, g', ⟨ev.t, 14, ev.v, 0, 0, false, 0⟩, 0)) := ⟨_, rfl⟩
              have br1 : (ro.1 != ro.1) = false := by simp
              have br2 : (ro.2.1 != ro.2.1) = false := by simp
              have br3 : (ro.2.2 != ro.2.2) = false := by simp
              have bp1 : (pPh P != pPh P) = false := by simp
              have bp2 : (rPh (some (g, g', ⟨ev.t, 14, ev.v, 0, 0, false, 0⟩, 0)) != rPh (some (g, g', ⟨ev.t, 14, ev.v, 0, 0, false, 0⟩, 0))) = false := by simp
              have bp3 : ((cAct s { F with receiving := true } != 0) != (cAct s { F with receiving := true } != 0)) = false := by simp
              have bp4 : (cLag s { F with receiving := true } != cLag s { F with receiving := true }) = false := by simp
              have HRO := hid hro
              clear hro
              go_wp2_with fail
              refine (HZ.out.res).mono ?_
              rintro e Wa ⟨rfl, ha⟩
              rw [← HRO.out]
              have HA1 := hid ha
              clear ha
              go_wp2_with fail
              refine (HA1.out.rres HKZ.out).mono ?_
              rintro e Wb ⟨rfl, ha⟩
              rw [← HRO.out]
              have HA2 := hid ha
              clear ha
              go_wp2_with fail
              refine (HA2.out.pnext).mono ?_
              rintro e Wc ⟨rfl, ha⟩
              have HA3 := hid ha
              clear ha
              go_wp2_with fail
              refine (HA3.out.rpnext).mono ?_
              rintro e Wd ⟨rfl, ha⟩
              have HA4 := hid ha
              clear ha
              go_wp2_with fail
              refine (HA4.out.rnext).mono ?_
              rintro e We ⟨rfl, ha⟩
              have HA5 := hid ha
              clear ha
              go_wp2_with fail
              refine (HA5.out.rrnext).mono ?_
              rintro e Wf ⟨rfl, ha⟩
              have HA6 := hid ha
              clear ha
              go_wp2_with fail
              refine (HA6.out.active).mono ?_
              rintro e Wg ⟨rfl, ha⟩
              have HA7 := hid ha
              clear ha
              go_wp2_with fail
              refine (HA7.out.ractive).mono ?_
              rintro e Wh ⟨rfl, ha⟩
              have HA8 := hid ha
              clear ha
              go_wp2_with fail
              refine (HA8.out.lag).mono ?_
              rintro e Wi ⟨rfl, ha⟩
              have HA9 := hid ha
              clear ha
              go_wp2_with fail
              refine (HA9.out.rlag).mono ?_
              rintro e Wj ⟨rfl, ha⟩
              have HA10 := hid ha
              clear ha
              go_wp2_with fail
              refine (HA10.out.list HKZ.out).mono ?_
              rintro e Wk ⟨v1, rfl, hr1, ha⟩
              obtain ⟨B1, k1, hv1, _⟩ := own_slice hr1
              subst hv1
              have HA11 := hid ha
              have HR1 := hid hr1
              clear ha hr1
              go_wp2_with fail
              refine (HA11.out.rlist HKZ.out).mono ?_
              rintro e Wl ⟨v2, rfl, hr2, c2⟩
              obtain ⟨B2, k2, hv2, _⟩ := own_slice hr2
              subst hv2
              have HA12 := hid (HA11.out.keep c2)
              have HR1b := hid (c2.own HR1.out (fun _ _ => id))
              have HR2 := hid hr2
              clear hr2 c2
              go_wp2_with fail
              refine (eqWords_any _ _ _ _ _ _ _ _ Wl (row_wordsF HR1b.out) (row_wordsF HR2.out) (flist_len HKZ.out)).mono ?_
              rintro e Wm ⟨he, n5, rfl⟩
              rw [decide_eq_true rfl] at he
              subst he
              go_wp2_with fail
              go_roundw
              case rel => exact ⟨j + 1, by omega, by go_num, _, _, _, _, rfl, rfl, rfl, rfl, HKZ.out, HA12.out.drewN n5⟩
              case measure => simp [intOf]; omega
          · have HBAD := hid (show ¬ (0 ≤ ev.t ∧ ev.t < 16) by omega)
            clear hok
            go_wp2_with fail
            refine Mix.wp_region_mix (fun _ => True) (fun i => ([0, 0, 0, 0, 0, 0, 0, 0, 0, 0, 0, 2, 0, 0, 0, 0, 0] : List Nat).getD i 0) [0, 1, 2, 3, 4, 5, 6, 7, 8, 9, 10, 11, 12, 13, 14, 15, 16] (by kernel_rfl) (by kernel_rfl) ?_
            repeat (first | (refine Mix.mix_q (by simp only [List.getElem?_toArray, List.getElem?_cons_zero, List.getElem?_cons_succ]; exact rfl) rfl ?_; go_big_quiet_step (fail); refine wpQuiet_nil ?_) | (refine Mix.mix_p (by simp only [List.getElem?_toArray, List.getElem?_cons_zero, List.getElem?_cons_succ]; exact rfl) rfl rfl ?_; go_big_quiet_step (fail); refine wpQuiet_nil ?_))
            refine Mix.mix_e (by simp only [List.getElem?_toArray, List.getElem?_cons_zero, List.getElem?_cons_succ]; exact rfl) rfl fun W hW => ?_
            obtain ⟨n1, rfl⟩ := hW
            go_wp2_with fail
            refine calls_world fun Wa hWa => ?_
            have Ha := hid (show FsA _ _ _ _ _ _ _ _ _ _ _ _ _ _ _ w Wa by rw [hWa]; first | exact HH.out | exact FsA.drewN (HH.out) _ | exact FsA.drewN (FsA.drewN (HH.out) _) _)
            clear hWa
            refine (Ha.out.recv_arg ev.t ev.v HBAD.out).mono ?_
            rintro e Wa' ⟨rfl, rfl⟩
            clear c1 c2
            have c1 := HC1.out _ Ha.out.bel
            have c2 := HC2.out _ Ha.out.bel
            go_wp2_with fail
            repeat (first | (refine Mix.mix_q (by simp only [List.getElem?_toArray, List.getElem?_cons_zero, List.getElem?_cons_succ]; exact rfl) rfl ?_; go_big_quiet_step (fail); refine wpQuiet_nil ?_) | (refine Mix.mix_p (by simp only [List.getElem?_toArray, List.getElem?_cons_zero, List.getElem?_cons_succ]; exact rfl) rfl rfl ?_; go_big_quiet_step (fail); refine wpQuiet_nil ?_))
            intro n2
            go_wp2_with fail
            refine Mix.wp_region_mix (fun _ => True) (fun i => ([0, 0, 0, 0, 0, 0, 0, 0, 0, 0, 0, 2, 0, 0, 0, 0, 0] : List Nat).getD i 0) [0, 1, 2, 3, 4, 5, 6, 7, 8, 9, 10, 11, 12, 13, 14, 15, 16] (by kernel_rfl) (by kernel_rfl) ?_
            repeat (first | (refine Mix.mix_q (by simp only [List.getElem?_toArray, List.getElem?_cons_zero, List.getElem?_cons_succ]; exact rfl) rfl ?_; go_big_quiet_step (fail); refine wpQuiet_nil ?_) | (refine Mix.mix_p (by simp only [List.getElem?_toArray, List.getElem?_cons_zero, List.getElem?_cons_succ]; exact rfl) rfl rfl ?_; go_big_quiet_step (fail); refine wpQuiet_nil ?_))
            refine Mix.mix_e (by simp only [List.getElem?_toArray, List.getElem?_cons_zero, List.getElem?_cons_succ]; exact rfl) rfl fun W hW => ?_
            obtain ⟨n1, rfl⟩ := hW
            go_wp2_with fail
            refine calls_world fun Wb hWb => ?_
            have Hb := hid (show FsA _ _ _ _ _ _ _ _ _ _ _ _ _ _ _ w Wb by rw [hWb]; first | exact Ha.out | exact FsA.drewN (Ha.out) _ | exact FsA.drewN (FsA.drewN (Ha.out) _) _)
            clear hWb
            refine (Hb.out.rrecv_arg ev.t ev.v HBAD.out).mono ?_
            rintro e Wb' ⟨rfl, rfl⟩
            clear c1 c2
            go_wp2_with fail
            repeat (first | (refine Mix.mix_q (by simp only [List.getElem?_toArray, List.getElem?_cons_zero, List.getElem?_cons_succ]; exact rfl) rfl ?_; go_big_quiet_step (fail); refine wpQuiet_nil ?_) | (refine Mix.mix_p (by simp only [List.getElem?_toArray, List.getElem?_cons_zero, List.getElem?_cons_succ]; exact rfl) rfl rfl ?_; go_big_quiet_step (fail); refine wpQuiet_nil ?_))
            intro n4
            have HZ := hid (Hb.out.drewN n4)
            obtain ⟨ro, hro⟩ : ∃ ro, ro = rOutc R := ⟨_, rfl⟩
            have br1 : (ro.1 != ro.1) = false := by simp
            have br2 : (ro.2.1 != ro.2.1) = false := by simp
            have br3 : (ro.2.2 != ro.2.2) = false := by simp
            have bp1 : (pPh P != pPh P) = false := by simp
            have bp2 : (rPh R != rPh R) = false := by simp
            have bp3 : ((cAct s F != 0) != (cAct s F != 0)) = false := by simp
            have bp4 : (cLag s F != cLag s F) = false := by simp
            have HRO := hid hro
            clear hro
            go_wp2_with fail
            refine (HZ.out.res).mono ?_
            rintro e Wa ⟨rfl, ha⟩
            rw [← HRO.out]
            have HA1 := hid ha
            clear ha
            go_wp2_with fail
            refine (HA1.out.rres (HK.out.mono (by omega) (by omega))).mono ?_
            rintro e Wb ⟨rfl, ha⟩
            rw [← HRO.out]
            have HA2 := hid ha
            clear ha
            go_wp2_with fail
            refine (HA2.out.pnext).mono ?_
            rintro e Wc ⟨rfl, ha⟩
            have HA3 := hid ha
            clear ha
            go_wp2_with fail
            refine (HA3.out.rpnext).mono ?_
            rintro e Wd ⟨rfl, ha⟩
            have HA4 := hid ha
            clear ha
            go_wp2_with fail
            refine (HA4.out.rnext).mono ?_
            rintro e We ⟨rfl, ha⟩
            have HA5 := hid ha
            clear ha
            go_wp2_with fail
            refine (HA5.out.rrnext).mono ?_
            rintro e Wf ⟨rfl, ha⟩
            have HA6 := hid ha
            clear ha
            go_wp2_with fail
            refine (HA6.out.active).mono ?_
            rintro e Wg ⟨rfl, ha⟩
            have HA7 := hid ha
            clear ha
            go_wp2_with fail
            refine (HA7.out.ractive).mono ?_
            rintro e Wh ⟨rfl, ha⟩
            have HA8 := hid ha
            clear ha
            go_wp2_with fail
            refine (HA8.out.lag).mono ?_
            rintro e Wi ⟨rfl, ha⟩
            have HA9 := hid ha
            clear ha
            go_wp2_with fail
            refine (HA9.out.rlag).mono ?_
            rintro e Wj ⟨rfl, ha⟩
            have HA10 := hid ha
            clear ha
            go_wp2_with fail
            refine (HA10.out.list (HK.out.mono (by omega) (by omega))).mono ?_
            rintro e Wk ⟨v1, rfl, hr1, ha⟩
            obtain ⟨B1, k1, hv1, _⟩ := own_slice hr1
            subst hv1
            have HA11 := hid ha
            have HR1 := hid hr1
            clear ha hr1
            go_wp2_with fail
            refine (HA11.out.rlist (HK.out.mono (by omega) (by omega))).mono ?_
            rintro e Wl ⟨v2, rfl, hr2, c2⟩
            obtain ⟨B2, k2, hv2, _⟩ := own_slice hr2
            subst hv2
            have HA12 := hid (HA11.out.keep c2)
            have HR1b := hid (c2.own HR1.out (fun _ _ => id))
            have HR2 := hid hr2
            clear hr2 c2
            go_wp2_with fail
            refine (eqWords_any _ _ _ _ _ _ _ _ Wl (row_wordsF HR1b.out) (row_wordsF HR2.out) (flist_len (HK.out.mono (by omega) (by omega)))).mono ?_
            rintro e Wm ⟨he, n5, rfl⟩
            rw [decide_eq_true rfl] at he
            subst he
            go_wp2_with fail
            go_roundw
            case rel => exact ⟨j + 1, by omega, by go_num, _, _, _, _, rfl, rfl, rfl, rfl, (HK.out.mono (by omega) (by omega)), HA12.out.drewN n5⟩
            case measure => simp [intOf]; omega
      have e1 : (ev.d.tmod 5 == 1) = false := by rw [beq_eq_false_iff_ne]; exact h1
      by_cases h2 : ev.d.tmod 5 = 2
      · have e2 : (ev.d.tmod 5 == 2) = true := by rw [beq_iff_eq]; exact h2
        clear h0 h1 h2
        as_aux_lemma =>
          go_wp2_with fail
          refine (HH.out.pstep HK.out).mono ?_
          rintro e Wa ⟨rfl, hx⟩
          have HX := hid hx
          clear hx
          go_wp2_with fail
          refine (HX.out.rpstep HK.out).mono ?_
          rintro e Wb ⟨rfl, hx⟩
          have HKZ := HK.out.pst (by omega)
          obtain ⟨hv1, hv2⟩ := pV_out s F P
          obtain ⟨oo, hoo⟩ : ∃ oo, oo = pOut s F P := ⟨_, rfl⟩
          rw [← hoo] at hx HKZ hv1 hv2 ⊢
          have HY := hid hx
          have HKY := hid HKZ
          have bs1 : (oo.2.2.2.1 != oo.2.2.2.1) = false := by simp
          have bs2 : (oo.2.2.2.2 != oo.2.2.2.2) = false := by simp
          have HV1 := hid hv1
          have HV2 := hid hv2
          clear hx HKZ hoo HX hv1 hv2
          go_wp2_with fail
          rw [← HV1.out, ← HV2.out]
          obtain ⟨ro, hro⟩ : ∃ ro, ro = rOutc R := ⟨_, rfl⟩
          have br1 : (ro.1 != ro.1) = false := by simp
          have br2 : (ro.2.1 != ro.2.1) = false := by simp
          have br3 : (ro.2.2 != ro.2.2) = false := by simp
          have bp1 : (pPh oo.2.2.1 != pPh oo.2.2.1) = false := by simp
          have bp2 : (rPh R != rPh R) = false := by simp
          have bp3 : ((cAct oo.1 oo.2.1 != 0) != (cAct oo.1 oo.2.1 != 0)) = false := by simp
          have bp4 : (cLag oo.1 oo.2.1 != cLag oo.1 oo.2.1) = false := by simp
          have HRO := hid hro
          clear hro
          go_wp2_with fail
          refine (HY.out.res).mono ?_
          rintro e Wa ⟨rfl, ha⟩
          rw [← HRO.out]
          have HA1 := hid ha
          clear ha
          go_wp2_with fail
          refine (HA1.out.rres HKY.out).mono ?_
          rintro e Wb ⟨rfl, ha⟩
          rw [← HRO.out]
          have HA2 := hid ha
          clear ha
          go_wp2_with fail
          refine (HA2.out.pnext).mono ?_
          rintro e Wc ⟨rfl, ha⟩
          have HA3 := hid ha
          clear ha
          go_wp2_with fail
          refine (HA3.out.rpnext).mono ?_
          rintro e Wd ⟨rfl, ha⟩
          have HA4 := hid ha
          clear ha
          go_wp2_with fail
          refine (HA4.out.rnext).mono ?_
          rintro e We ⟨rfl, ha⟩
          have HA5 := hid ha
          clear ha
          go_wp2_with fail
          refine (HA5.out.rrnext).mono ?_
          rintro e Wf ⟨rfl, ha⟩
          have HA6 := hid ha
          clear ha
          go_wp2_with fail
          refine (HA6.out.active).mono ?_
          rintro e Wg ⟨rfl, ha⟩
          have HA7 := hid ha
          clear ha
          go_wp2_with fail
          refine (HA7.out.ractive).mono ?_
          rintro e Wh ⟨rfl, ha⟩
          have HA8 := hid ha
          clear ha
          go_wp2_with fail
          refine (HA8.out.lag).mono ?_
          rintro e Wi ⟨rfl, ha⟩
          have HA9 := hid ha
          clear ha
          go_wp2_with fail
          refine (HA9.out.rlag).mono ?_
          rintro e Wj ⟨rfl, ha⟩
          have HA10 := hid ha
          clear ha
          go_wp2_with fail
          refine (HA10.out.list HKY.out).mono ?_
          rintro e Wk ⟨v1, rfl, hr1, ha⟩
          obtain ⟨B1, k1, hv1, _⟩ := own_slice hr1
          subst hv1
          have HA11 := hid ha
          have HR1 := hid hr1
          clear ha hr1
          go_wp2_with fail
          refine (HA11.out.rlist HKY.out).mono ?_
          rintro e Wl ⟨v2, rfl, hr2, c2⟩
          obtain ⟨B2, k2, hv2, _⟩ := own_slice hr2
          subst hv2
          have HA12 := hid (HA11.out.keep c2)
          have HR1b := hid (c2.own HR1.out (fun _ _ => id))
          have HR2 := hid hr2
          clear hr2 c2
          go_wp2_with fail
          refine (eqWords_any _ _ _ _ _ _ _ _ Wl (row_wordsF HR1b.out) (row_wordsF HR2.out) (flist_len HKY.out)).mono ?_
          rintro e Wm ⟨he, n5, rfl⟩
          rw [decide_eq_true rfl] at he
          subst he
          go_wp2_with fail
          go_roundw
          case rel => exact ⟨j + 1, by omega, by go_num, _, _, _, _, rfl, rfl, rfl, rfl, HKY.out, HA12.out.drewN n5⟩
          case measure => simp [intOf]; omega
      have e2 : (ev.d.tmod 5 == 2) = false := by rw [beq_eq_false_iff_ne]; exact h2
      by_cases h3 : ev.d.tmod 5 = 3
      · have e3 : (ev.d.tmod 5 == 3) = true := by rw [beq_iff_eq]; exact h3
        clear h0 h1 h2 h3
        as_aux_lemma =>
          go_wp2_with fail
          refine (HH.out.rstep HK.out).mono ?_
          rintro e Wa ⟨rfl, hx⟩
          have HX := hid hx
          clear hx
          go_wp2_with fail
          refine (HX.out.rrstep HK.out).mono ?_
          rintro e Wb ⟨rfl, hx⟩
          have HKZ := HK.out.rst (by omega)
          obtain ⟨hv1, hv2⟩ := rV_out s F R
          obtain ⟨oo, hoo⟩ : ∃ oo, oo = rOut s F R := ⟨_, rfl⟩
          rw [← hoo] at hx HKZ hv1 hv2 ⊢
          have HY := hid hx
          have HKY := hid HKZ
          have bs1 : (oo.2.2.2.1 != oo.2.2.2.1) = false := by simp
          have bs2 : (oo.2.2.2.2 != oo.2.2.2.2) = false := by simp
          have HV1 := hid hv1
          have HV2 := hid hv2
          clear hx HKZ hoo HX hv1 hv2
          go_wp2_with fail
          rw [← HV1.out, ← HV2.out]
          obtain ⟨ro, hro⟩ : ∃ ro, ro = rOutc oo.2.2.1 := ⟨_, rfl⟩
          have br1 : (ro.1 != ro.1) = false := by simp
          have br2 : (ro.2.1 != ro.2.1) = false := by simp
          have br3 : (ro.2.2 != ro.2.2) = false := by simp
          have bp1 : (pPh P != pPh P) = false := by simp
          have bp2 : (rPh oo.2.2.1 != rPh oo.2.2.1) = false := by simp
          have bp3 : ((cAct oo.1 oo.2.1 != 0) != (cAct oo.1 oo.2.1 != 0)) = false := by simp
          have bp4 : (cLag oo.1 oo.2.1 != cLag oo.1 oo.2.1) = false := by simp
          have HRO := hid hro
          clear hro
          go_wp2_with fail
          refine (HY.out.res).mono ?_
          rintro e Wa ⟨rfl, ha⟩
          rw [← HRO.out]
          have HA1 := hid ha
          clear ha
          go_wp2_with fail
          refine (HA1.out.rres HKY.out).mono ?_
          rintro e Wb ⟨rfl, ha⟩
          rw [← HRO.out]
          have HA2 := hid ha
          clear ha
          go_wp2_with fail
          refine (HA2.out.pnext).mono ?_
          rintro e Wc ⟨rfl, ha⟩
          have HA3 := hid ha
          clear ha
          go_wp2_with fail
          refine (HA3.out.rpnext).mono ?_
          rintro e Wd ⟨rfl, ha⟩
          have HA4 := hid ha
          clear ha
          go_wp2_with fail
          refine (HA4.out.rnext).mono ?_
          rintro e We ⟨rfl, ha⟩
          have HA5 := hid ha
          clear ha
          go_wp2_with fail
          refine (HA5.out.rrnext).mono ?_
          rintro e Wf ⟨rfl, ha⟩
          have HA6 := hid ha
          clear ha
          go_wp2_with fail
          refine (HA6.out.active).mono ?_
          rintro e Wg ⟨rfl, ha⟩
          have HA7 := hid ha
          clear ha
          go_wp2_with fail
          refine (HA7.out.ractive).mono ?_
          rintro e Wh ⟨rfl, ha⟩
          have HA8 := hid ha
          clear ha
          go_wp2_with fail
          refine (HA8.out.lag).mono ?_
          rintro e Wi ⟨rfl, ha⟩
          have HA9 := hid ha
          clear ha
          go_wp2_with fail
          refine (HA9.out.rlag).mono ?_
          rintro e Wj ⟨rfl, ha⟩
          have HA10 := hid ha
          clear ha
          go_wp2_with fail
          refine (HA10.out.list HKY.out).mono ?_
          rintro e Wk ⟨v1, rfl, hr1, ha⟩
          obtain ⟨B1, k1, hv1, _⟩ := own_slice hr1
          subst hv1
          have HA11 := hid ha
          have HR1 := hid hr1
          clear ha hr1
          go_wp2_with fail
          refine (HA11.out.rlist HKY.out).mono ?_
          rintro e Wl ⟨v2, rfl, hr2, c2⟩
          obtain ⟨B2, k2, hv2, _⟩ := own_slice hr2
          subst hv2
          have HA12 := hid (HA11.out.keep c2)
          have HR1b := hid (c2.own HR1.out (fun _ _ => id))
          have HR2 := hid hr2
          clear hr2 c2
          go_wp2_with fail
          refine (eqWords_any _ _ _ _ _ _ _ _ Wl (row_wordsF HR1b.out) (row_wordsF HR2.out) (flist_len HKY.out)).mono ?_
          rintro e Wm ⟨he, n5, rfl⟩
          rw [decide_eq_true rfl] at he
          subst he
          go_wp2_with fail
          go_roundw
          case rel => exact ⟨j + 1, by omega, by go_num, _, _, _, _, rfl, rfl, rfl, rfl, HKY.out, HA12.out.drewN n5⟩
          case measure => simp [intOf]; omega
      have e3 : (ev.d.tmod 5 == 3) = false := by rw [beq_eq_false_iff_ne]; exact h3
      clear h0 h1 h2 h3
      as_aux_lemma =>
        have c1 := HC1.out _ HH.out.bel
        go_wp2_with fail
        obtain ⟨S, hS⟩ : ∃ S : Nat → Prop, ∀ k, S k ↔ k < w.heap.size := ⟨_, fun _ => Iff.rfl⟩
        have hSb : Mix.Has S b := (hS _).2 hbl
        have HS := hid hS
        clear hS
        refine Mix.wp_region_mix S (fun i => ([1, 1, 1, 1, 1, 0, 3, 1, 1, 1, 1, 1, 4, 2, 0] : List Nat).getD i 0) [0, 1, 2, 3, 4, 5, 7, 8, 9, 10, 11, 12, 6, 13, 14] (by kernel_rfl) (by kernel_rfl) ?_
        repeat (first | (refine Mix.mix_q (by simp only [List.getElem?_toArray, List.getElem?_cons_zero, List.getElem?_cons_succ]; exact rfl) rfl ?_; go_big_quiet_step (fail); refine wpQuiet_nil ?_) | (refine Mix.mix_p (by simp only [List.getElem?_toArray, List.getElem?_cons_zero, List.getElem?_cons_succ]; exact rfl) rfl rfl ?_; go_big_quiet_step (fail); refine wpQuiet_nil ?_) | (refine Mix.mix_s (by simp only [List.getElem?_toArray, List.getElem?_cons_zero, List.getElem?_cons_succ]; exact rfl) rfl rfl ?_; go_big_quiet_step (fail); refine wpQuiet_nil ?_))
        refine Mix.mix_a (by simp only [List.getElem?_toArray, List.getElem?_cons_zero, List.getElem?_cons_succ]; exact rfl) rfl fun W1 hW1 => ?_
        obtain ⟨n1, rfl⟩ := hW1
        go_wp2_with fail
        refine calls_world fun Wa hWa => ?_
        have Ha := hid (show FsA w.heap.size p cb fb rp vb rf s F P R s F P R w Wa by rw [hWa]; first | exact HH.out | exact HH.out.drewN _)
        clear hWa
        refine (Ha.out.act HK.out ev.t).mono ?_
        rintro e Wb ⟨rfl, hx⟩
        have HX := hid hx
        have hkeep : Mix.Keep S wr Wb := fun k hk => (hx.bel.block k ((HS.out k).1 hk)).trans (HH.out.bel.block k ((HS.out k).1 hk)).symm
        clear hx c1
        go_wp2_with fail
        refine ⟨hkeep, ?_⟩
        clear hkeep
        repeat (first | (refine Mix.mix_q (by simp only [List.getElem?_toArray, List.getElem?_cons_zero, List.getElem?_cons_succ]; exact rfl) rfl ?_; go_big_quiet_step (fail); refine wpQuiet_nil ?_) | (refine Mix.mix_p (by simp only [List.getElem?_toArray, List.getElem?_cons_zero, List.getElem?_cons_succ]; exact rfl) rfl rfl ?_; go_big_quiet_step (fail); refine wpQuiet_nil ?_) | (refine Mix.mix_s (by simp only [List.getElem?_toArray, List.getElem?_cons_zero, List.getElem?_cons_succ]; exact rfl) rfl rfl ?_; go_big_quiet_step (fail); refine wpQuiet_nil ?_))
        refine Mix.mix_e (by simp only [List.getElem?_toArray, List.getElem?_cons_zero, List.getElem?_cons_succ]; exact rfl) rfl fun W2 hW2 => ?_
        obtain ⟨n2, rfl⟩ := hW2
        go_wp2_with fail
        refine calls_world fun Wc hWc => ?_
        have Hc := hid (show FsA _ _ _ _ _ _ _ _ _ _ _ _ _ _ _ w Wc by rw [hWc]; first | exact HX.out | exact HX.out.drewN _)
        clear hWc
        refine (Hc.out.ract HK.out ev.t).mono ?_
        rintro e Wd ⟨rfl, hx⟩
        have HKZ := HK.out.act (by omega) ev.t
        obtain ⟨oo, hoo⟩ : ∃ oo, oo = aOut s F ev.t := ⟨_, rfl⟩
        rw [← hoo] at hx HKZ ⊢
        have HY := hid hx
        have HKY := hid HKZ
        have bs1 : (oo.2 != oo.2) = false := by simp
        clear hx HKZ hoo HX
        go_wp2_with fail
        repeat (first | (refine Mix.mix_q (by simp only [List.getElem?_toArray, List.getElem?_cons_zero, List.getElem?_cons_succ]; exact rfl) rfl ?_; go_big_quiet_step (fail); refine wpQuiet_nil ?_) | (refine Mix.mix_p (by simp only [List.getElem?_toArray, List.getElem?_cons_zero, List.getElem?_cons_succ]; exact rfl) rfl rfl ?_; go_big_quiet_step (fail); refine wpQuiet_nil ?_) | (refine Mix.mix_s (by simp only [List.getElem?_toArray, List.getElem?_cons_zero, List.getElem?_cons_succ]; exact rfl) rfl rfl ?_; go_big_quiet_step (fail); refine wpQuiet_nil ?_))
        intro n3
        have HZ := hid (HY.out.drewN n3)
        obtain ⟨ro, hro⟩ : ∃ ro, ro = rOutc R := ⟨_, rfl⟩
        have br1 : (ro.1 != ro.1) = false := by simp
        have br2 : (ro.2.1 != ro.2.1) = false := by simp
        have br3 : (ro.2.2 != ro.2.2) = false := by simp
        have bp1 : (pPh P != pPh P) = false := by simp
        have bp2 : (rPh R != rPh R) = false := by simp
        have bp3 : ((cAct oo.1 F != 0) != (cAct oo.1 F != 0)) = false := by simp
        have bp4 : (cLag oo.1 F != cLag oo.1 F) = false := by simp
        have HRO := hid hro
        clear hro
        go_wp2_with fail
        refine (HZ.out.res).mono ?_
        rintro e Wa ⟨rfl, ha⟩
        rw [← HRO.out]
        have HA1 := hid ha
        clear ha
        go_wp2_with fail
        refine (HA1.out.rres HKY.out).mono ?_
        rintro e Wb ⟨rfl, ha⟩
        rw [← HRO.out]
        have HA2 := hid ha
        clear ha
        go_wp2_with fail
        refine (HA2.out.pnext).mono ?_
        rintro e Wc ⟨rfl, ha⟩
        have HA3 := hid ha
        clear ha
        go_wp2_with fail
        refine (HA3.out.rpnext).mono ?_
        rintro e Wd ⟨rfl, ha⟩
        have HA4 := hid ha
        clear ha
        go_wp2_with fail
        refine (HA4.out.rnext).mono ?_
        rintro e We ⟨rfl, ha⟩
        have HA5 := hid ha
        clear ha
        go_wp2_with fail
        refine (HA5.out.rrnext).mono ?_
        rintro e Wf ⟨rfl, ha⟩
        have HA6 := hid ha
        clear ha
        go_wp2_with fail
        refine (HA6.out.active).mono ?_
        rintro e Wg ⟨rfl, ha⟩
        have HA7 := hid ha
        clear ha
        go_wp2_with fail
        refine (HA7.out.ractive).mono ?_
        rintro e Wh ⟨rfl, ha⟩
        have HA8 := hid ha
        clear ha
        go_wp2_with fail
        refine (HA8.out.lag).mono ?_
        rintro e Wi ⟨rfl, ha⟩
        have HA9 := hid ha
        clear ha
        go_wp2_with fail
        refine (HA9.out.rlag).mono ?_
        rintro e Wj ⟨rfl, ha⟩
        have HA10 := hid ha
        clear ha
        go_wp2_with fail
        refine (HA10.out.list HKY.out).mono ?_
        rintro e Wk ⟨v1, rfl, hr1, ha⟩
        obtain ⟨B1, k1, hv1, _⟩ := own_slice hr1
        subst hv1
        have HA11 := hid ha
        have HR1 := hid hr1
        clear ha hr1
        go_wp2_with fail
        refine (HA11.out.rlist HKY.out).mono ?_
        rintro e Wl ⟨v2, rfl, hr2, c2⟩
        obtain ⟨B2, k2, hv2, _⟩ := own_slice hr2
        subst hv2
        have HA12 := hid (HA11.out.keep c2)
        have HR1b := hid (c2.own HR1.out (fun _ _ => id))
        have HR2 := hid hr2
        clear hr2 c2
        go_wp2_with fail
        refine (eqWords_any _ _ _ _ _ _ _ _ Wl (row_wordsF HR1b.out) (row_wordsF HR2.out) (flist_len HKY.out)).mono ?_
        rintro e Wm ⟨he, n5, rfl⟩
        rw [decide_eq_true rfl] at he
        subst he
        go_wp2_with fail
        go_roundw
        case rel => exact ⟨j + 1, by omega, by go_num, _, _, _, _, rfl, rfl, rfl, rfl, HKY.out, HA12.out.drewN n5⟩
        case measure => simp [intOf]; omega
    · obtain rfl : j = len := by omega
      have d1 : decide (j < j) = false := decide_eq_false (by omega)
      as_aux_lemma =>
        go_wp2_with fail
        obtain ⟨lv, mv, hM⟩ := HH.out
        have HM := hid hM
        have hI : FeedM w.heap.size wr p cb fb lv s F := hM.each 0 _ rfl
        have hR : RFeedM w.heap.size wr rp vb rf mv s F := hM.each 1 _ rfl
        have HI := hid hI
        have HR := hid hR
        clear hM hI hR
        obtain ⟨S, hS⟩ : ∃ S : Nat → Prop, ∀ k, S k ↔ k = rp := ⟨_, fun _ => Iff.rfl⟩
        have hSp : Mix.Has S rp := (hS _).2 rfl
        have HS := hid hS
        obtain ⟨Aq, cq, hmv, hcq, hacc⟩ := own_accs HR.out.b.hl
        subst hmv
        have r1 : wr.cell? ⟨rp, 1, none⟩ = some (.slice Aq s.lg.length cq) := HR.out.b.hp.cell 1
        have hlg := HK.out.fi.lg
        have hM5 := HK.out.hM
        have HAC := hid hacc
        clear hS hacc
        refine Mix.wp_region_mix S (fun i => ([0, 3, 1, 1, 1, 4, 0, 0, 2, 0, 0] : List Nat).getD i 0) [0, 2, 3, 4, 5, 1, 6, 7, 8, 9, 10] (by kernel_rfl) (by kernel_rfl) ?_
        repeat (first | (refine Mix.mix_q (by simp only [List.getElem?_toArray, List.getElem?_cons_zero, List.getElem?_cons_succ]; exact rfl) rfl ?_; go_big_quiet_step (fail); refine wpQuiet_nil ?_) | (refine Mix.mix_p (by simp only [List.getElem?_toArray, List.getElem?_cons_zero, List.getElem?_cons_succ]; exact rfl) rfl rfl ?_; go_big_quiet_step (fail); refine wpQuiet_nil ?_) | (refine Mix.mix_s (by simp only [List.getElem?_toArray, List.getElem?_cons_zero, List.getElem?_cons_succ]; exact rfl) rfl rfl ?_; go_big_quiet_step (fail); refine wpQuiet_nil ?_))
        refine Mix.mix_a (by simp only [List.getElem?_toArray, List.getElem?_cons_zero, List.getElem?_cons_succ]; exact rfl) rfl fun W1 hW1 => ?_
        obtain ⟨n1, rfl⟩ := hW1
        go_wp2_with fail
        refine (log_any w.heap.size p cb lv s 0 _ (HI.out.drewNF n1).b (by omega)).mono ?_
        rintro e w2 ⟨gl, rfl, hlog, hc2, hgl⟩
        have hcut : cutAt 0 s.lg.length = 0 := by simp [cutAt]
        rw [hcut, List.drop_zero] at hlog ⊢
        have ch2 : Ch (fun _ => False) wr w2 := hc2.ofDrewN
        have HLOG := hid hlog
        have HAC2 := hid (HAC.out.ch ch2 (fun _ _ _ => id))
        have H2 := hid (HM.out.keep ch2)
        have hkeep : Mix.Keep S wr w2 := fun j hj => by rw [(HS.out j).1 hj]; exact ch2.block rp HR.out.b.hp.lt id
        clear hcut hlog hc2 r1
        go_wp2_with fail
        refine ⟨hkeep, ?_⟩
        clear hkeep
        repeat (first | (refine Mix.mix_q (by simp only [List.getElem?_toArray, List.getElem?_cons_zero, List.getElem?_cons_succ]; exact rfl) rfl ?_; go_big_quiet_step ((go_at_call 50; exact eqAccs_qF _ _ _ _ _ _ _ _ (blk_accs HLOG.out) HAC2.out (by omega) _)); refine wpQuiet_nil ?_) | (refine Mix.mix_p (by simp only [List.getElem?_toArray, List.getElem?_cons_zero, List.getElem?_cons_succ]; exact rfl) rfl rfl ?_; go_big_quiet_step (fail); refine wpQuiet_nil ?_) | (refine Mix.mix_s (by simp only [List.getElem?_toArray, List.getElem?_cons_zero, List.getElem?_cons_succ]; exact rfl) rfl rfl ?_; go_big_quiet_step (fail); refine wpQuiet_nil ?_))
        refine Mix.mix_e (by simp only [List.getElem?_toArray, List.getElem?_cons_zero, List.getElem?_cons_succ]; exact rfl) rfl fun W3 hW3 => ?_
        obtain ⟨n3, rfl⟩ := hW3
        go_wp2_with fail
        refine (known_any _).mono ?_
        rintro e w4 ⟨rfl, hb⟩
        have HB := hid ((H2.out.drewN n3).bel.trans (hb.mono (H2.out.drewN n3).bel.size))
        clear hb
        go_wp2_with fail
        repeat (first | (refine Mix.mix_q (by simp only [List.getElem?_toArray, List.getElem?_cons_zero, List.getElem?_cons_succ]; exact rfl) rfl ?_; go_big_quiet_step (fail); refine wpQuiet_nil ?_) | (refine Mix.mix_p (by simp only [List.getElem?_toArray, List.getElem?_cons_zero, List.getElem?_cons_succ]; exact rfl) rfl rfl ?_; go_big_quiet_step (fail); refine wpQuiet_nil ?_) | (refine Mix.mix_s (by simp only [List.getElem?_toArray, List.getElem?_cons_zero, List.getElem?_cons_succ]; exact rfl) rfl rfl ?_; go_big_quiet_step (fail); refine wpQuiet_nil ?_))
        intro n5
        go_wp2_with fail
        go_ret
        exact ⟨rfl, Below.drewNF HB.out n5⟩
end Go.Proofs.Ytonjbofdmmnpdaa
