/- Runs of an epoch: pins, unpins, retirements; what is left at the end. -/
import Derived.Test.YtokcodeeaneeaaaEgLaw
namespace Go.Proofs.Ytokcodeeaneeaaa
set_option linter.unusedVariables false
set_option linter.unusedSimpArgs false
set_option linter.unusedSectionVars false

section
variable {n m : Nat} {x : Xr}
theorem EInv.le (h : EInv n m x) {m' : Nat} (hm : m ≤ m') : EInv n m' x := ⟨h.vl, Nat.le_trans h.ll hm, ⟨h.nw.1, by have := h.nw.2; omega⟩, h.pl, h.pk, h.sc, h.ol⟩
theorem GInv.le (h : GInv n m x) {m' : Nat} (hm : m ≤ m') : GInv n m' x := ⟨h.toEInv.le hm, h.gr, h.fn⟩
theorem pin_set (ps : List (Option Pn)) (k j : Nat) (v : Option Pn) (hk : k < ps.length) : (ps.set k v)[j]?.getD none = if j = k then v else ps[j]?.getD none := by
  rw [List.getElem?_set]
  by_cases h : k = j
  · subst h; simp [hk]
  · rw [if_neg h, if_neg (fun e => h e.symm)]
theorem pinok_keep {s s' : BS} {k : Nat} {o : Option Pn} (h : PinOk s k o) (h1 : lk s'.vs (k + 1) = lk s.vs (k + 1)) (h2 : lk s'.vs 0 = lk s.vs 0) : PinOk s' k o := by
  cases o with
  | none => exact h1.trans h
  | some q => unfold PinOk at h ⊢; simp only at h ⊢; rw [h1, h2]; exact h
/-- The three cases of a step of a pin. -/
theorem xpin_cases (h : EInv n m x) (hm : m < 1000000) {k : Nat} (hk : k < n) :
    (x.pin k = none ∧ xpin n k x = { x with s := x.s.load k 0, ps := x.ps.set k (some ⟨k, k, x.now, 10⟩) })
    ∨ (∃ v, x.pin k = some ⟨k, k, v, 9⟩ ∧ xpin n k x = { x with s := x.s.load k 0, ps := x.ps.set k (some ⟨k, k, x.now, 10⟩) })
    ∨ (∃ v, x.pin k = some ⟨k, k, v, 10⟩ ∧ xpin n k x = { x with s := x.s.store k (k + 1 : Nat) (v + 1), ps := x.ps.set k (some ⟨k, k, v, 0⟩) })
    ∨ (∃ q, x.pin k = some q ∧ q.ph = 0 ∧ xpin n k x = x) := by
  have hpk := h.pk k hk
  have hl : pnstep x.s (edf n) ⟨k, k, 0, 9⟩ = (x.s.load k 0, ⟨k, k, x.now, 10⟩) := rfl
  unfold xpin
  cases hp : x.pin k with
  | none => exact .inl ⟨rfl, rfl⟩
  | some q =>
    rw [hp] at hpk
    obtain ⟨t, sl, v, ph⟩ := q
    obtain ⟨h1, h2, h3⟩ := hpk
    simp only at h1 h2 h3
    subst h1 h2
    rcases h3 with ⟨rfl, _⟩ | ⟨rfl, _, c1, c2⟩ | ⟨rfl, _⟩
    · exact .inr (.inl ⟨v, rfl, rfl⟩)
    · refine .inr (.inr (.inl ⟨v, rfl, ?_⟩))
      have hw : w64 (v + 1) = v + 1 := by have := h.nw; unfold Xr.now at this; unfold w64; omega
      simp only [Option.getD_some]
      rw [if_neg (show ¬ ((10 : Int) = 0) by decide)]
      unfold pnstep
      rw [if_neg (show ¬ ((10 : Int) = 9) by decide), if_pos rfl]
      simp only [edf_slot, hw]
    · exact .inr (.inr (.inr ⟨_, rfl, rfl, rfl⟩))
theorem einv_pin (h : EInv n m x) (hm : m < 1000000) {k : Nat} (hk : k < n) : EInv n (m + 1) (xpin n k x) := by
  have hvl := h.vl
  have hpl := h.pl
  have hll := h.ll
  have hnw := h.nw
  have one : ∀ s' : BS, s'.vs = x.s.vs → s'.lg.length = x.s.lg.length + 1 → EInv n (m + 1) { x with s := s', ps := x.ps.set k (some ⟨k, k, x.now, 10⟩) } → True := fun _ _ _ _ => trivial
  have ld : (lk x.s.vs (k + 1) = 0) → EInv n (m + 1) { x with s := x.s.load k 0, ps := x.ps.set k (some ⟨k, k, x.now, 10⟩) } := fun hz => by
    refine ⟨hvl, by rw [load_ll]; omega, ⟨hnw.1, ?_⟩, by rw [List.length_set]; exact hpl, fun j hj => ?_, h.sc, h.ol⟩
    · show lk x.s.vs 0 ≤ _
      have : lk x.s.vs 0 = x.now := rfl
      omega
    · show PinOk _ j ((x.ps.set k _)[j]?.getD none)
      rw [pin_set _ _ _ _ (by omega)]
      by_cases e : j = k
      · subst e
        rw [if_pos rfl]
        exact ⟨rfl, rfl, .inr (.inl ⟨rfl, hz, hnw.1, Int.le_refl _⟩)⟩
      · rw [if_neg e]
        exact h.pk j hj
  have hpk := h.pk k hk
  rcases xpin_cases h hm hk with ⟨hp, e⟩ | ⟨v, hp, e⟩ | ⟨v, hp, e⟩ | ⟨q, hp, hq, e⟩
  · rw [e]
    rw [hp] at hpk
    exact ld hpk
  · rw [e]
    rw [hp] at hpk
    obtain ⟨_, _, h3⟩ := hpk
    refine ld ?_
    rcases h3 with ⟨_, c⟩ | ⟨c, _⟩ | ⟨c, _⟩
    · exact c
    · cases c
    · cases c
  · rw [e]
    rw [hp] at hpk
    obtain ⟨_, _, h3⟩ := hpk
    have hb : 0 ≤ v ∧ v ≤ lk x.s.vs 0 := by
      rcases h3 with ⟨c, _⟩ | ⟨_, _, c1, c2⟩ | ⟨c, _⟩
      · cases c
      · exact ⟨c1, c2⟩
      · cases c
    have hs : ∀ j, j ≠ k + 1 → lk (x.s.store k (k + 1 : Nat) (v + 1)).vs j = lk x.s.vs j := fun j hj => lk_set_ne _ (by rw [Int.toNat_natCast]; omega)
    have hs1 : lk (x.s.store k (k + 1 : Nat) (v + 1)).vs (k + 1) = v + 1 := by
      rw [store_vs, Int.toNat_natCast]; exact lk_set _ (by omega)
    refine ⟨by rw [store_vs, List.length_set]; exact hvl, by rw [store_ll]; omega, ?_, by rw [List.length_set]; exact hpl, fun j hj => ?_, h.sc, fun r hr => ?_⟩
    · show 0 ≤ lk (x.s.store k (k + 1 : Nat) (v + 1)).vs 0 ∧ lk (x.s.store k (k + 1 : Nat) (v + 1)).vs 0 ≤ _
      rw [hs 0 (by omega)]
      have : lk x.s.vs 0 = x.now := rfl
      omega
    · show PinOk _ j ((x.ps.set k _)[j]?.getD none)
      rw [pin_set _ _ _ _ (by omega)]
      by_cases e : j = k
      · subst e
        rw [if_pos rfl]
        exact ⟨rfl, rfl, .inr (.inr ⟨rfl, hs1, hb.1, by rw [hs 0 (by omega)]; exact hb.2⟩)⟩
      · rw [if_neg e]
        exact pinok_keep (h.pk j hj) (hs _ (by omega)) (hs 0 (by omega))
    · have := h.ol r hr
      show r.sl.length = n ∧ 0 ≤ r.ep ∧ r.ep ≤ lk (x.s.store k (k + 1 : Nat) (v + 1)).vs 0 ∧ (r.due = false → lk (x.s.store k (k + 1 : Nat) (v + 1)).vs 0 ≤ r.ep + 1)
      rw [hs 0 (by omega)]
      exact this
  · rw [e]
    exact h.le (by omega)
theorem xpin_old (h : EInv n m x) (hm : m < 1000000) {k : Nat} (hk : k < n) : (xpin n k x).old = x.old ∧ (xpin n k x).fine = x.fine ∧ (xpin n k x).sc = x.sc ∧ (xpin n k x).now = x.now := by
  rcases xpin_cases h hm hk with ⟨hp, e⟩ | ⟨v, hp, e⟩ | ⟨v, hp, e⟩ | ⟨q, hp, hq, e⟩
  · rw [e]; exact ⟨rfl, rfl, rfl, rfl⟩
  · rw [e]; exact ⟨rfl, rfl, rfl, rfl⟩
  · rw [e]; exact ⟨rfl, rfl, rfl, lk_set_ne _ (by rw [Int.toNat_natCast]; omega)⟩
  · rw [e]; exact ⟨rfl, rfl, rfl, rfl⟩
theorem held_of {y : Xr} {k : Nat} {e : Int} (hh : Held k e x) (h1 : y.pin k = x.pin k) (h2 : y.now = x.now) (h3 : y.sc = x.sc) : Held k e y := by
  obtain ⟨q, hp, hq⟩ := hh
  refine ⟨q, h1.trans hp, ?_⟩
  rw [h2, h3]
  exact hq
theorem held_pin (h : EInv n m x) (hm : m < 1000000) {k j : Nat} (hk : k < n) (hj : j < n) {e : Int} (hh : Held j e x) : Held j e (xpin n k x) := by
  obtain ⟨_, _, o3, o4⟩ := xpin_old h hm hk
  refine held_of hh ?_ o4 o3
  have hpl := h.pl
  have set1 : ∀ (s' : BS) (v : Option Pn), j ≠ k → ({ x with s := s', ps := x.ps.set k v } : Xr).pin j = x.pin j := fun s' v hne => by
    show (x.ps.set k v)[j]?.getD none = _
    rw [pin_set _ _ _ _ (by omega), if_neg hne]; rfl
  obtain ⟨q0, hp0, hq0, _⟩ := hh
  rcases xpin_cases h hm hk with ⟨hp, e⟩ | ⟨v, hp, e⟩ | ⟨v, hp, e⟩ | ⟨q, hp, hq, e⟩
  · rw [e]; exact set1 _ _ (fun c => by subst c; rw [hp] at hp0; cases hp0)
  · rw [e]; exact set1 _ _ (fun c => by subst c; rw [hp] at hp0; cases hp0; cases hq0)
  · rw [e]; exact set1 _ _ (fun c => by subst c; rw [hp] at hp0; cases hp0; cases hq0)
  · rw [e]
theorem ginv_pin (h : GInv n m x) (hm : m < 1000000) {k : Nat} (hk : k < n) : GInv n (m + 1) (xpin n k x) := by
  obtain ⟨o1, o2, _, _⟩ := xpin_old h.toEInv hm hk
  exact ⟨einv_pin h.toEInv hm hk, fun r hr j hj hs => held_pin h.toEInv hm hk hj (h.gr r (o1 ▸ hr) j hj hs), o2.trans h.fn⟩

theorem unpin_now (k : Nat) (y : Xr) : lk (x.s.store k ((edf n).slot k : Nat) 0).vs 0 = x.now := by
  rw [edf_slot]; exact lk_set_ne _ (by rw [Int.toNat_natCast]; omega)
theorem einv_unpin0 (h : EInv n m x) {k : Nat} (hk : k < n) : EInv n (m + 1) (xunpin0 n k x) := by
  have hvl := h.vl
  have hpl := h.pl
  have hll := h.ll
  have hnw := h.nw
  unfold xunpin0
  have hs : ∀ j, j ≠ k + 1 → lk (x.s.store k ((edf n).slot k : Nat) 0).vs j = lk x.s.vs j := fun j hj => by rw [edf_slot]; exact lk_set_ne _ (by rw [Int.toNat_natCast]; omega)
  have hs1 : lk (x.s.store k ((edf n).slot k : Nat) 0).vs (k + 1) = 0 := by
    rw [edf_slot, store_vs, Int.toNat_natCast]; exact lk_set _ (by omega)
  refine ⟨by rw [store_vs, List.length_set]; exact hvl, by rw [store_ll]; omega, ?_, by rw [List.length_set]; exact hpl, fun j hj => ?_, h.sc, fun r hr => ?_⟩
  · show 0 ≤ lk (x.s.store k ((edf n).slot k : Nat) 0).vs 0 ∧ lk (x.s.store k ((edf n).slot k : Nat) 0).vs 0 ≤ _
    rw [hs 0 (by omega)]
    have : lk x.s.vs 0 = x.now := rfl
    omega
  · show PinOk _ j ((x.ps.set k _)[j]?.getD none)
    rw [pin_set _ _ _ _ (by omega)]
    by_cases e : j = k
    · subst e
      rw [if_pos rfl]
      exact hs1
    · rw [if_neg e]
      exact pinok_keep (h.pk j hj) (hs _ (by omega)) (hs 0 (by omega))
  · have := h.ol r hr
    show r.sl.length = n ∧ 0 ≤ r.ep ∧ r.ep ≤ lk (x.s.store k ((edf n).slot k : Nat) 0).vs 0 ∧ (r.due = false → lk (x.s.store k ((edf n).slot k : Nat) 0).vs 0 ≤ r.ep + 1)
    rw [hs 0 (by omega)]
    exact this
theorem held_unpin0 (h : EInv n m x) {k j : Nat} (hk : k < n) (hne : j ≠ k) {e : Int} (hh : Held j e x) : Held j e (xunpin0 n k x) := by
  refine held_of hh ?_ (unpin_now k x) rfl
  show (x.ps.set k _)[j]?.getD none = _
  rw [pin_set _ _ _ _ (by have := h.pl; omega), if_neg hne]; rfl
theorem ginv_unpin (h : GInv n m x) {k : Nat} (hk : k < n) : GInv n (m + 1) (xunpin n k x) := by
  have hE := einv_unpin0 h.toEInv hk
  have hmem : ∀ r ∈ reset k x.old, ∃ r0 ∈ x.old, r.ep = r0.ep ∧ r.due = r0.due ∧ r.sl = r0.sl.set k false := fun r hr => by
    obtain ⟨r0, h0, rfl⟩ := List.mem_map.1 hr
    exact ⟨r0, h0, rfl, rfl, rfl⟩
  refine ⟨⟨hE.vl, hE.ll, hE.nw, hE.pl, hE.pk, hE.sc, fun r hr => ?_⟩, fun r hr j hj hs => ?_, h.fn⟩
  · obtain ⟨r0, h0, e1, e2, e3⟩ := hmem r hr
    have := hE.ol r0 h0
    rw [e1, e2, e3, List.length_set]
    exact this
  · obtain ⟨r0, h0, e1, e2, e3⟩ := hmem r hr
    rw [e3, List.getElem?_set] at hs
    by_cases e : k = j
    · subst e
      rw [if_pos rfl] at hs
      split at hs <;> cases hs
    · rw [if_neg e] at hs
      rw [e1]
      exact held_unpin0 h.toEInv hk (fun c => e c.symm) (h.gr r0 h0 j hj hs)
theorem ginv_ret (h : GInv n m x) : GInv n (m + 1) (xret x) := by
  have hpl := h.pl
  have hE := h.toEInv.le (Nat.le_succ m)
  refine ⟨⟨hE.vl, hE.ll, hE.nw, hE.pl, hE.pk, hE.sc, fun r hr => ?_⟩, fun r hr j hj hs => ?_, h.fn⟩
  · rcases List.mem_append.1 hr with hr | hr
    · exact h.ol r hr
    · rw [List.mem_singleton] at hr
      subst hr
      exact ⟨by simp [hpl], h.nw.1, Int.le_refl _, fun _ => by show x.now ≤ x.now + 1; omega⟩
  · rcases List.mem_append.1 hr with hr | hr
    · exact h.gr r hr j hj hs
    · rw [List.mem_singleton] at hr
      subst hr
      simp only [List.getElem?_map] at hs
      have hpk := h.pk j hj
      have hp : x.pin j = x.ps[j]?.getD none := rfl
      cases ho : x.ps[j]? with
      | none => rw [ho] at hs; cases hs
      | some o =>
        rw [ho] at hs hp
        simp only [Option.map_some, Option.getD_some] at hs hp
        cases o with
        | none => cases hs
        | some q =>
          have hq : q.ph = 0 := by simpa [isOn] using hs
          rw [hp] at hpk
          obtain ⟨_, _, h3⟩ := hpk
          have hb : q.seen ≤ lk x.s.vs 0 := by
            rcases h3 with ⟨c, _⟩ | ⟨c, _⟩ | ⟨_, _, _, c⟩
            · rw [hq] at c; cases c
            · rw [hq] at c; cases c
            · exact c
          refine ⟨q, hp, hq, hb, Int.le_refl _, ?_, fun hne => ?_⟩
          · show x.now ≤ x.now + 1
            omega
          · have hne : x.now = x.now + 1 := hne
            omega
end

/-- A run of no events. -/
def x0 (n : Nat) : Xr := ⟨⟨List.replicate (n + 1) 0, []⟩, List.replicate n none, none, [], true⟩
theorem lk_rep (n k : Nat) : lk (List.replicate n 0) k = 0 := by
  unfold lk
  rw [List.getD_eq_getElem?_getD, List.getElem?_replicate]
  split <;> rfl
theorem ginv_x0 (n : Nat) : GInv n 0 (x0 n) := by
  have h0 : lk (x0 n).s.vs 0 = 0 := lk_rep _ _
  refine ⟨⟨by simp [x0], Nat.le_refl _, ?_, by simp [x0], fun k hk => ?_, fun q hq => (by cases hq), fun r hr => (by cases hr)⟩, fun r hr => (by cases hr), rfl⟩
  · show 0 ≤ lk (x0 n).s.vs 0 ∧ lk (x0 n).s.vs 0 ≤ ((0 : Nat) : Int)
    rw [h0]; decide
  · have : (x0 n).pin k = none := by
      unfold Xr.pin x0
      simp only [List.getElem?_replicate]
      split <;> rfl
    rw [this]
    exact lk_rep _ _

section
variable {n m : Nat} {x : Xr}
/-- The scan in progress has passed its first i slots. -/
def Far (i : Nat) (x : Xr) : Prop := ∀ q, x.sc = some q → i ≤ q.at'
theorem far_scan (h : EInv n m x) (hm : m < 1000000) {i : Nat} (hf : Far i x) (hs : x.sc ≠ none) : Far (i + 1) (xscan n x) := by
  have hat : i ≤ (x.sc.getD (sn0 n)).at' := by
    cases hx : x.sc with
    | none => exact absurd hx hs
    | some q => exact hf q hx
  rcases xscan_cases h hm with ⟨a, ha, hq, hc, e⟩ | ⟨a, ha, hq, hc, e⟩ | ⟨ha, e⟩
  · rw [e]; exact fun q hq => (by cases hq)
  · rw [e]
    intro q hq'
    injection hq' with hq'
    subst hq'
    show i + 1 ≤ a + 1
    omega
  · rw [e]; exact fun q hq => (by cases hq)
theorem far_first (h : EInv n m x) (hm : m < 1000000) : Far 1 (xscan n x) := by
  rcases xscan_cases h hm with ⟨a, ha, hq, hc, e⟩ | ⟨a, ha, hq, hc, e⟩ | ⟨ha, e⟩
  · rw [e]; exact fun q hq => (by cases hq)
  · rw [e]
    intro q hq'
    injection hq' with hq'
    subst hq'
    show 1 ≤ a + 1
    omega
  · rw [e]; exact fun q hq => (by cases hq)
theorem far_end (h : EInv n m x) (hf : Far (n + 1) x) : x.sc = none := by
  cases hs : x.sc with
  | none => rfl
  | some q =>
    have := hf q hs
    have := (h.sc q hs).2.2.1
    omega

/-- No slot is announced. -/
def Calm (n : Nat) (x : Xr) : Prop := ∀ k, k < n → x.pin k = none
/-- The scan in progress has passed exactly the first i slots (none, if there is none). -/
def AtN (n i : Nat) (x : Xr) : Prop := (x.sc.getD (sn0 n)).at' = i
theorem xscan_ps (h : EInv n m x) (hm : m < 1000000) : (xscan n x).ps = x.ps := by
  rcases xscan_cases h hm with ⟨a, ha, hq, hc, e⟩ | ⟨a, ha, hq, hc, e⟩ | ⟨ha, e⟩ <;> rw [e]
theorem calm_scan (h : EInv n m x) (hm : m < 1000000) (hc : Calm n x) : Calm n (xscan n x) := fun k hk => by
  unfold Xr.pin
  rw [xscan_ps h hm]
  exact hc k hk
theorem calm_step (h : EInv n m x) (hm : m < 1000000) (hc : Calm n x) {i : Nat} (hi : AtN n i x) (hlt : i < n) : AtN n (i + 1) (xscan n x) ∧ (xscan n x).now = x.now := by
  unfold AtN at hi
  rcases xscan_cases h hm with ⟨a, ha, hq, hv, e⟩ | ⟨a, ha, hq, hv, e⟩ | ⟨ha, e⟩
  · have := h.pk a ha
    rw [hc a ha] at this
    exact absurd this hv.1
  · rw [e]
    refine ⟨?_, rfl⟩
    show a + 1 = i + 1
    omega
  · omega
theorem calm_bump (h : EInv n m x) (hm : m < 1000000) (hc : Calm n x) (hi : AtN n n x) : (xscan n x).sc = none ∧ (xscan n x).now = x.now + 1 := by
  unfold AtN at hi
  rcases xscan_cases h hm with ⟨a, ha, hq, hv, e⟩ | ⟨a, ha, hq, hv, e⟩ | ⟨ha, e⟩
  · omega
  · omega
  · rw [e]
    exact ⟨rfl, lk_set _ (by have := h.vl; omega)⟩
theorem atn_none (h : x.sc = none) : AtN n 0 x := by unfold AtN; rw [h]; rfl
/-- What was retired by epoch e. -/
def OldBy (e : Int) (x : Xr) : Prop := ∀ r ∈ x.old, r.ep ≤ e
theorem oldby_scan (h : EInv n m x) (hm : m < 1000000) {e : Int} (ho : OldBy e x) : OldBy e (xscan n x) := by
  rcases xscan_cases h hm with ⟨a, ha, hq, hv, e'⟩ | ⟨a, ha, hq, hv, e'⟩ | ⟨ha, e'⟩
  · rw [e']; exact ho
  · rw [e']; exact ho
  · rw [e']
    intro r hr
    obtain ⟨r0, h0, e1, _⟩ := markAll_mem hr
    rw [e1]
    exact ho r0 h0
theorem all_due (h : EInv n m x) {e : Int} (ho : OldBy e x) (hn : e + 2 ≤ x.now) : ∀ r ∈ x.old, r.due = true := fun r hr => by
  cases hd : r.due with
  | true => rfl
  | false =>
    have := (h.ol r hr).2.2.2 hd
    have := ho r hr
    omega
theorem lim_empty {o : List Rt} (h : ∀ r ∈ o, r.due = true) (j : Int) : lim o 0 j = [] := by
  cases hl : lim o 0 j with
  | nil => rfl
  | cons a l =>
    obtain ⟨k, r, _, hk, hr⟩ := lim_mem (show a ∈ lim o 0 j by rw [hl]; exact List.mem_cons_self)
    have := h r (List.mem_of_getElem? hk)
    rw [hr.1] at this
    cases this
end
end Go.Proofs.Ytokcodeeaneeaaa
