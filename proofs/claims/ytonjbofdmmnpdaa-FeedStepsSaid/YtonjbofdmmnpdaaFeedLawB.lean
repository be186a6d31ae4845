/- The feed: the invariant, the consumer's half (plain). -/
import Derived.Test.YtonjbofdmmnpdaaFeedLaw
namespace Go.Proofs.Ytonjbofdmmnpdaa
set_option linter.unusedVariables false
set_option linter.unusedSimpArgs false

/-- What is true where a number is got. -/
def GotF (y : Xs) (v : Int) (lagged : Bool) : Prop :=
  lastI y.got < v ∧ ∃ at_ : Nat, placeOf y.pushed v y.pushed.length = at_ ∧ at_ < y.pushed.length ∧ (lagged = false → (at_ = 0 ∧ y.got.length = 0) ∨ (0 < at_ ∧ lk y.pushed (at_ - 1) = lastI y.got)) ∧
    (lagged = true → y.full = true ∧ nolag y.lags = y.items.length ∧ flen y.s y.f = 0)
/-- What is true where a reception ends. -/
def EndF (x : Xs) (r : Rd) : Prop :=
  ((rstep x.s x.f r).2.err = 0 ∧ GotF (x.stR r) (rstep x.s x.f r).2.value (rstep x.s x.f r).2.lagged) ∨
  ((rstep x.s x.f r).2.err = 17 ∧ (x.stR r).clean = true ∧ (rstep x.s x.f r).2.value = 0 ∧ (rstep x.s x.f r).2.lagged = false ∧ ((x.stR r).looked = 0 ∨ (0 < (x.stR r).looked ∧ (x.stR r).looked ≤ x.pushed.length ∧ lk x.pushed ((x.stR r).looked - 1) ≤ lastI x.got)))

section
variable {x : Xs} {m H T a : Nat}

theorem pinv_move {y : Xs} {H' : Nat} {q : Pd} (h : PInv x H T q) (hp : y.pushed = x.pushed) (hst : y.steps = x.steps) (hn : y.f.n = x.f.n) (hc : cLag y.s y.f = cLag x.s x.f ∨ cLag y.s y.f = 0) (hH : H ≤ H') (hr : q.ph = 31 → lk y.s.vs (y.f.ent T) = lk x.s.vs (x.f.ent T)) (hf : q.ph = 32 → y.full = x.full) : PInv y H' T q := by
  refine { t := h.t, p := by rw [hp]; exact h.p, ph := h.ph, lag0 := fun e => ?_, sw := fun e => ?_, room := fun e => ?_, item := fun e => (hr e).trans (h.item e), mark := fun e => (hf e).trans (h.mark e), st := by rw [hst]; exact h.st }
  · rcases hc with c | c
    · rw [c]; exact h.lag0 e
    · exact c
  · have := h.sw e
    refine ⟨this.1, ?_⟩
    rcases hc with c | c
    · rw [c]; exact this.2
    · exact .inr c
  · have := h.room e
    rw [hn]; omega

theorem place_of_inc (h : Inv x m H T a) {i : Nat} (hi : i < x.pushed.length) : placeOf x.pushed (lk x.pushed i) x.pushed.length = i := by
  refine placeOf_eq rfl ?_ _ hi (Nat.le_refl _)
  intro j hj hlt
  rcases Nat.lt_or_ge j i with h1 | h1
  · have := h.inc j i h1 hi; omega
  · have := h.inc i j (by omega) hlt; omega

theorem lastI_lt (h : Inv x m H T a) {i : Nat} (hi : i < x.pushed.length) (ha : a ≤ i) : lastI x.got < lk x.pushed i := by
  rcases h.lst with ⟨e1, e2⟩ | ⟨e1, e2, e3⟩
  · rw [lastI_zero e2]; exact (h.pos i hi).1
  · rw [e3]; exact h.inc _ _ (by omega) hi

/-- A step of the reception that changes no cell and does not end it. -/
theorem rinv_keep (h : Inv x m H T a) {r : Rd} (hR : x.R = some r) (hs : (rstep x.s x.f r).1.vs = x.s.vs) (hlg : (rstep x.s x.f r).1.lg.length = x.s.lg.length + 1) (hnx : (rstep x.s x.f r).2.ph ≠ 0) (hR' : RInv (x.stR r) H T a (rstep x.s x.f r).2) : Inv (x.conR r) (m + 1) H T a := by
  have g1 := h.HT
  have g2 := h.lg
  have ex : x.conR r = x.stR r := by unfold Xs.conR; rw [if_neg hnx]
  rw [ex]
  have e1 : cAct (x.stR r).s (x.stR r).f = cAct x.s x.f := by show lk (rstep x.s x.f r).1.vs x.f.first = _; rw [hs]; rfl
  have e2 : cLag (x.stR r).s (x.stR r).f = cLag x.s x.f := by show lk (rstep x.s x.f r).1.vs (x.f.first + 1) = _; rw [hs]; rfl
  have e3 : cHead (x.stR r).s (x.stR r).f = cHead x.s x.f := by show lk (rstep x.s x.f r).1.vs (x.f.first + 2) = _; rw [hs]; rfl
  have e4 : cTail (x.stR r).s (x.stR r).f = cTail x.s x.f := by show lk (rstep x.s x.f r).1.vs (x.f.first + 3) = _; rw [hs]; rfl
  have eR : (x.stR r).R = some (rstep x.s x.f r).2 := by simp [Xs.stR, hnx]
  have hvl : (x.stR r).s.vs.length = x.f.n + 4 := by show (rstep x.s x.f r).1.vs.length = _; rw [hs]; exact h.vl
  have hlg' : (x.stR r).s.lg.length ≤ m + 1 := by show (rstep x.s x.f r).1.lg.length ≤ _; rw [hlg]; omega
  refine { n1 := h.n1, f0 := h.f0, vl := hvl, lg := hlg', act := e1.trans h.act, hH := e3.trans h.hH, hT := e4.trans h.hT, HT := ⟨g1.1, g1.2.1, by omega⟩, ring := ?_, il := h.il, inc := h.inc, pos := h.pos, pl := h.pl, pm := Nat.le_succ_of_le h.pm, itp := h.itp, lag := ?_, lst := h.lst, gl := ⟨h.gl.1, Nat.le_succ_of_le h.gl.2⟩, cnt := h.cnt, flast := h.flast, fpr := ⟨h.fpr.1, by rw [eR]; show (_ != _) = _; simp [hnx]⟩, prod := ?_, cons := ?_ }
  · intro j h1 h2
    show lk (rstep x.s x.f r).1.vs (x.f.ent j) = _
    rw [hs]
    exact h.ring j h1 h2
  · rw [e2]; exact h.lag
  · intro q hq
    exact pinv_move (h.prod q hq) rfl rfl rfl (.inl e2) (Nat.le_refl _) (fun _ => by show lk (rstep x.s x.f r).1.vs (x.f.ent T) = _; rw [hs]) (fun _ => rfl)
  · intro r' hr'
    rw [eR] at hr'
    obtain rfl := Option.some.inj hr'
    exact hR'

/-- A step of the reception. -/
theorem inv_conR (h : Inv x m H T a) (hm : m ≤ 1000) {r : Rd} (hR : x.R = some r) :
    ∃ H' a', Inv (x.conR r) (m + 1) H' T a' ∧ x.takes + 1 ≤ 4 ∧ ((rstep x.s x.f r).2.ph = 0 → EndF x r) := by
  have hr := h.cons r hR
  have g1 := h.HT
  have g2 := h.lg
  have hv := h.vl
  have h0 := h.f0
  have hal := h.alen
  have htk := hr.tk
  have hpl := h.pl
  have hpe : x.ended ≤ x.pushed.length := by omega
  suffices hs : ∃ H' a', Inv (x.conR r) (m + 1) H' T a' ∧ ((rstep x.s x.f r).2.ph = 0 → EndF x r) by
    obtain ⟨H', a', hi, he⟩ := hs
    exact ⟨H', a', hi, by omega, he⟩
  rcases hr.ph with e | e | e | e | e
  · -- 14
    have ho : rstep x.s x.f r = (x.s.load r.t (x.f.first + 1 : Nat), { r with l := cLag x.s x.f, ph := 15 }) := by unfold rstep; rw [if_pos e]
    refine ⟨H, a, rinv_keep h hR (by rw [ho]; rfl) (by rw [ho]; exact load_lg _ _ _) (by rw [ho]; simp) ?_, fun hc => by rw [ho] at hc; simp at hc⟩
    have c2 : cLag (x.stR r).s (x.stR r).f = cLag x.s x.f := by show lk (rstep x.s x.f r).1.vs (x.f.first + 1) = _; rw [ho]; rfl
    rw [ho]
    refine { t := hr.t, after := hr.after, fresh := ⟨hr.fresh.1, hr.fresh.2.1, fun _ => hr.fresh.2.2 (by omega)⟩, ph := .inr (.inl rfl), look1 := fun _ hl => by rw [c2]; exact hl, look0 := fun _ hl => ?_, have16 := fun e' => by simp at e', have17 := fun e' => by simp at e', lag := fun e' => by simp at e', tk := by simp [Xs.stR]; omega }
    have hl0 : cLag x.s x.f = 0 := hl
    have hend : x.ended = a + (T - H) := by
      rcases h.lag with ⟨_, c⟩ | ⟨c1, c, _⟩
      · exact c
      · have := h.pos (x.ended - 1) (by omega)
        rw [← c1, hl0] at this
        omega
    have elk : (x.stR r).looked = x.ended := by simp [Xs.stR, e]
    refine ⟨by rw [elk]; omega, fun hTH => ?_⟩
    have e3 : cHead (rstep x.s x.f r).1 x.f = H := by rw [ho]; exact h.hH
    have e4 : cTail (rstep x.s x.f r).1 x.f = T := by rw [ho]; exact h.hT
    have e2 : cLag (rstep x.s x.f r).1 x.f = 0 := by rw [ho]; exact hl0
    simp [Xs.stR, e, flen, e3, e4, e2]
    omega
  · -- 15
    by_cases hc : cTail x.s x.f = cHead x.s x.f
    · have hTH : T = H := by rw [h.hT, h.hH] at hc; omega
      by_cases hl : r.l = 0
      · have ho : rstep x.s x.f r = (x.s.load r.t (x.f.first + 3 : Nat), { r with ph := 0, err := 17 }) := by unfold rstep; rw [if_neg (by omega), if_pos e, if_pos hc, if_pos hl]
        have hlook := hr.look0 e hl
        have ex : x.conR r = x.stR r := by unfold Xs.conR Xs.endR; rw [ho]; simp
        have hvs : (rstep x.s x.f r).1.vs = x.s.vs := by rw [ho]; rfl
        have eR : (x.stR r).R = none := by simp [Xs.stR, ho]
        have elk : (x.stR r).looked = x.looked := by simp [Xs.stR, e]
        have ecl : (x.stR r).clean = x.clean := by simp [Xs.stR, e]
        refine ⟨H, a, ?_, fun _ => ?_⟩
        · rw [ex]
          have e1 : cAct (x.stR r).s (x.stR r).f = cAct x.s x.f := by show lk (rstep x.s x.f r).1.vs x.f.first = _; rw [hvs]; rfl
          have e2 : cLag (x.stR r).s (x.stR r).f = cLag x.s x.f := by show lk (rstep x.s x.f r).1.vs (x.f.first + 1) = _; rw [hvs]; rfl
          have e3 : cHead (x.stR r).s (x.stR r).f = cHead x.s x.f := by show lk (rstep x.s x.f r).1.vs (x.f.first + 2) = _; rw [hvs]; rfl
          have e4 : cTail (x.stR r).s (x.stR r).f = cTail x.s x.f := by show lk (rstep x.s x.f r).1.vs (x.f.first + 3) = _; rw [hvs]; rfl
          have hvl : (x.stR r).s.vs.length = x.f.n + 4 := by show (rstep x.s x.f r).1.vs.length = _; rw [hvs]; exact h.vl
          have hlg' : (x.stR r).s.lg.length ≤ m + 1 := by
            show (rstep x.s x.f r).1.lg.length ≤ _
            rw [ho, load_lg]; omega
          refine { n1 := h.n1, f0 := h.f0, vl := hvl, lg := hlg', act := e1.trans h.act, hH := e3.trans h.hH, hT := e4.trans h.hT, HT := ⟨g1.1, g1.2.1, by omega⟩, ring := fun j h1 h2 => by omega, il := h.il, inc := h.inc, pos := h.pos, pl := h.pl, pm := Nat.le_succ_of_le h.pm, itp := h.itp, lag := by rw [e2]; exact h.lag, lst := h.lst, gl := ⟨h.gl.1, Nat.le_succ_of_le h.gl.2⟩, cnt := h.cnt, flast := h.flast, fpr := ⟨h.fpr.1, by rw [eR]; show (_ != _) = _; rw [ho]; rfl⟩, prod := ?_, cons := ?_ }
          · intro q hq
            exact pinv_move (h.prod q hq) rfl rfl rfl (.inl e2) (Nat.le_refl _) (fun _ => by show lk (rstep x.s x.f r).1.vs (x.f.ent T) = _; rw [hvs]) (fun _ => rfl)
          · intro r' hr'
            rw [eR] at hr'
            cases hr'
        · refine .inr ?_
          rw [elk, ecl, ho]
          refine ⟨rfl, hlook.2 hTH, hr.fresh.2.2 (by omega), hr.fresh.1, ?_⟩
          by_cases hz : x.looked = 0
          · exact .inl hz
          · refine .inr ⟨by omega, by omega, ?_⟩
            have h1 := hlook.1
            rcases h.lst with ⟨c1, c2⟩ | ⟨c1, c2, c3⟩
            · omega
            · rw [c3]
              rcases Nat.lt_or_ge (x.looked - 1) (a - 1) with h2 | h2
              · exact Int.le_of_lt (h.inc _ _ h2 (by omega))
              · rw [show x.looked - 1 = a - 1 by omega]; exact Int.le_refl _
      · have ho : rstep x.s x.f r = (x.s.load r.t (x.f.first + 3 : Nat), { r with ph := 18 }) := by unfold rstep; rw [if_neg (by omega), if_pos e, if_pos hc, if_neg hl]
        have hG := hr.look1 e hl
        refine ⟨H, a, rinv_keep h hR (by rw [ho]; rfl) (by rw [ho]; exact load_lg _ _ _) (by rw [ho]; simp) ?_, fun hc => by rw [ho] at hc; simp at hc⟩
        have c2 : cLag (x.stR r).s (x.stR r).f = cLag x.s x.f := by show lk (rstep x.s x.f r).1.vs (x.f.first + 1) = _; rw [ho]; rfl
        rw [ho]
        exact { t := hr.t, after := hr.after, fresh := ⟨hr.fresh.1, hr.fresh.2.1, fun _ => hr.fresh.2.2 (by omega)⟩, ph := by simp, look1 := fun e' => by simp at e', look0 := fun e' => by simp at e', have16 := fun e' => by simp at e', have17 := fun e' => by simp at e', lag := fun _ => ⟨by rw [c2]; exact hG, hTH.symm⟩, tk := by simp [Xs.stR]; omega }
    · have ho : rstep x.s x.f r = (x.s.load r.t (x.f.first + 3 : Nat), { r with ph := 16 }) := by unfold rstep; rw [if_neg (by omega), if_pos e, if_neg hc]
      refine ⟨H, a, rinv_keep h hR (by rw [ho]; rfl) (by rw [ho]; exact load_lg _ _ _) (by rw [ho]; simp) ?_, fun hc => by rw [ho] at hc; simp at hc⟩
      rw [ho]
      refine { t := hr.t, after := hr.after, fresh := ⟨hr.fresh.1, hr.fresh.2.1, fun _ => hr.fresh.2.2 (by omega)⟩, ph := by simp, look1 := fun e' => by simp at e', look0 := fun e' => by simp at e', have16 := fun _ => ?_, have17 := fun e' => by simp at e', lag := fun e' => by simp at e', tk := by simp [Xs.stR]; omega }
      rw [h.hT, h.hH] at hc
      omega
  · -- 16
    have hlt := hr.have16 e
    have ho : rstep x.s x.f r = (x.s.load r.t (x.f.ent (cHead x.s x.f) : Nat), { r with ph := 17, value := lk x.s.vs (x.f.ent (cHead x.s x.f)) }) := by unfold rstep; rw [if_neg (by omega), if_neg (by omega), if_pos e]
    refine ⟨H, a, rinv_keep h hR (by rw [ho]; rfl) (by rw [ho]; exact load_lg _ _ _) (by rw [ho]; simp) ?_, fun hc => by rw [ho] at hc; simp at hc⟩
    rw [ho]
    refine { t := hr.t, after := hr.after, fresh := ⟨hr.fresh.1, hr.fresh.2.1, fun e' => absurd rfl e'⟩, ph := by simp, look1 := fun e' => by simp at e', look0 := fun e' => by simp at e', have16 := fun e' => by simp at e', have17 := fun _ => ⟨hlt, ?_⟩, lag := fun e' => by simp at e', tk := by simp [Xs.stR]; omega }
    show lk x.s.vs (x.f.ent (cHead x.s x.f)) = lk x.items H
    rw [h.hH]; exact h.ring H (Nat.le_refl _) hlt
  · -- 17
    have h17 := hr.have17 e
    have hw : w64 (cHead x.s x.f + 1) = (H + 1 : Nat) := by rw [h.hH, w64_small (by omega) (by omega)]; omega
    have hval : r.value = lk x.pushed a := by rw [h17.2, h.itp H (Nat.le_refl _) h17.1]; simp
    have hlt : lastI x.got < r.value := by rw [hval]; exact lastI_lt h (by omega) (Nat.le_refl _)
    have hn : ¬ r.value ≤ r.after := by rw [hr.after]; omega
    have ho : rstep x.s x.f r = (x.s.store r.t (x.f.first + 2 : Nat) (H + 1 : Nat), { r with ph := 0 }) := by unfold rstep; rw [if_neg (by omega), if_neg (by omega), if_neg (by omega), if_pos e, if_neg hn, hw]
    have es : (rstep x.s x.f r).1.vs = x.s.vs.set (x.f.first + 2) ((H + 1 : Nat) : Int) := by rw [ho]; rfl
    have eR : (x.stR r).R = none := by simp [Xs.stR, ho]
    have ex : x.conR r = (x.stR r).gotV r.value false := by unfold Xs.conR Xs.endR; rw [ho]; simp [hr.fresh.1, hr.fresh.2.1]
    have hplc : placeOf x.pushed r.value x.pushed.length = a := by rw [hval]; exact place_of_inc h (by omega)
    refine ⟨H + 1, a + 1, ?_, fun _ => .inl ?_⟩
    · rw [ex]
      have e1 : lk (rstep x.s x.f r).1.vs x.f.first = cAct x.s x.f := by rw [es]; exact lk_set_ne _ (by omega)
      have e2 : lk (rstep x.s x.f r).1.vs (x.f.first + 1) = cLag x.s x.f := by rw [es]; exact lk_set_ne _ (by omega)
      have e3 : lk (rstep x.s x.f r).1.vs (x.f.first + 2) = ((H + 1 : Nat) : Int) := by rw [es]; exact lk_set _ (by omega)
      have e4 : lk (rstep x.s x.f r).1.vs (x.f.first + 3) = cTail x.s x.f := by rw [es]; exact lk_set_ne _ (by omega)
      have hvl : (rstep x.s x.f r).1.vs.length = x.f.n + 4 := by rw [es, List.length_set]; exact hv
      have hlg' : (rstep x.s x.f r).1.lg.length ≤ m + 1 := by rw [ho, store_lg]; omega
      have hgl := h.gl
      refine { n1 := h.n1, f0 := h.f0, vl := hvl, lg := hlg', act := e1.trans h.act, hH := e3, hT := e4.trans h.hT, HT := ⟨by omega, by show T ≤ H + 1 + x.f.n; omega, by omega⟩, ring := ?_, il := h.il, inc := h.inc, pos := h.pos, pl := h.pl, pm := Nat.le_succ_of_le h.pm, itp := ?_, lag := ?_, lst := ?_, gl := ?_, cnt := ?_, flast := h.flast, fpr := ⟨h.fpr.1, by show _ = (x.stR r).R.isSome; rw [eR]; show (_ != _) = _; rw [ho]; rfl⟩, prod := ?_, cons := ?_ }
      · intro j h1 h2
        show lk (rstep x.s x.f r).1.vs (x.f.ent j) = lk x.items j
        rw [es, lk_set_ne _ (by rw [ent_nat h0]; omega)]
        exact h.ring j (by omega) h2
      · intro j h1 h2
        show lk x.items j = lk x.pushed _
        rw [h.itp j (by omega) h2]
        congr 1
        omega
      · rcases h.lag with ⟨c1, c2⟩ | ⟨c1, c2, c3, c4⟩
        · exact .inl ⟨e2.trans c1, by show x.ended = _; omega⟩
        · exact .inr ⟨e2.trans c1, by show _ < x.ended; omega, c3, c4⟩
      · refine .inr ⟨by omega, by simp [Xs.gotV], ?_⟩
        show lastI (x.got ++ [_]) = lk x.pushed _
        rw [lastI_snoc, hval]; simp
      · simp [Xs.gotV, Xs.stR]; omega
      · show nolag (x.lags ++ [false]) = H + 1
        rw [nolag_snoc, h.cnt]; rfl
      · intro q hq
        exact pinv_move (h.prod q hq) rfl rfl rfl (.inl e2) (by omega) (fun _ => by show lk (rstep x.s x.f r).1.vs (x.f.ent T) = _; rw [es, lk_set_ne _ (by rw [ent_nat h0]; omega)]) (fun _ => rfl)
      · intro r' hr'
        have : (x.stR r).R = some r' := hr'
        rw [eR] at this
        cases this
    · rw [ho]
      refine ⟨hr.fresh.2.1, hlt, a, hplc, by show a < x.pushed.length; omega, fun _ => ?_, fun hc => ?_⟩
      · rcases h.lst with ⟨c1, c2⟩ | ⟨c1, c2, c3⟩
        · exact .inl ⟨c1, c2⟩
        · exact .inr ⟨c1, c3.symm⟩
      · rw [hr.fresh.1] at hc; cases hc
  · -- 18
    have h18 := hr.lag e
    obtain ⟨c1, c2, c3, c4⟩ : cLag x.s x.f = lk x.pushed (x.ended - 1) ∧ a + (T - H) < x.ended ∧ x.full = true ∧ ∀ q, x.P = some q → q.ph ≤ 28 := by
      rcases h.lag with ⟨c, _⟩ | c
      · exact absurd c h18.1
      · exact c
    have hHT := h18.2
    have hlt : lastI x.got < cLag x.s x.f := by rw [c1]; exact lastI_lt h (by omega) (by omega)
    have hn : r.after < cLag x.s x.f := by rw [hr.after]; exact hlt
    have ho : rstep x.s x.f r = (x.s.swap r.t (x.f.first + 1 : Nat) 0, { r with ph := 0, value := cLag x.s x.f, lagged := true }) := by unfold rstep; rw [if_neg (by omega), if_neg (by omega), if_neg (by omega), if_neg (by omega), if_pos hn]
    have es : (rstep x.s x.f r).1.vs = x.s.vs.set (x.f.first + 1) 0 := by rw [ho]; rfl
    have eR : (x.stR r).R = none := by simp [Xs.stR, ho]
    have ex : x.conR r = (x.stR r).gotV (cLag x.s x.f) true := by unfold Xs.conR Xs.endR; rw [ho]; simp [hr.fresh.2.1]
    have hplc : placeOf x.pushed (cLag x.s x.f) x.pushed.length = (x.ended - 1 : Nat) := by rw [c1]; exact place_of_inc h (by omega)
    have e1 : lk (rstep x.s x.f r).1.vs x.f.first = cAct x.s x.f := by rw [es]; exact lk_set_ne _ (by omega)
    have e2 : lk (rstep x.s x.f r).1.vs (x.f.first + 1) = 0 := by rw [es]; exact lk_set _ (by omega)
    have e3 : lk (rstep x.s x.f r).1.vs (x.f.first + 2) = cHead x.s x.f := by rw [es]; exact lk_set_ne _ (by omega)
    have e4 : lk (rstep x.s x.f r).1.vs (x.f.first + 3) = cTail x.s x.f := by rw [es]; exact lk_set_ne _ (by omega)
    refine ⟨H, x.ended, ?_, fun _ => .inl ?_⟩
    · rw [ex]
      have hvl : (rstep x.s x.f r).1.vs.length = x.f.n + 4 := by rw [es, List.length_set]; exact hv
      have hlg' : (rstep x.s x.f r).1.lg.length ≤ m + 1 := by rw [ho, swap_lg]; omega
      have hgl := h.gl
      refine { n1 := h.n1, f0 := h.f0, vl := hvl, lg := hlg', act := e1.trans h.act, hH := e3.trans h.hH, hT := e4.trans h.hT, HT := ⟨by omega, g1.2.1, by omega⟩, ring := fun j h1 h2 => by omega, il := h.il, inc := h.inc, pos := h.pos, pl := h.pl, pm := Nat.le_succ_of_le h.pm, itp := fun j h1 h2 => by omega, lag := .inl ⟨e2, by show x.ended = _; omega⟩, lst := ?_, gl := ?_, cnt := ?_, flast := h.flast, fpr := ⟨h.fpr.1, by show _ = (x.stR r).R.isSome; rw [eR]; show (_ != _) = _; rw [ho]; rfl⟩, prod := ?_, cons := ?_ }
      · refine .inr ⟨by omega, by simp [Xs.gotV], ?_⟩
        show lastI (x.got ++ [_]) = lk x.pushed _
        rw [lastI_snoc, c1]
      · simp [Xs.gotV, Xs.stR]; omega
      · show nolag (x.lags ++ [true]) = H
        rw [nolag_snoc, h.cnt]; rfl
      · intro q hq
        have hq28 := c4 q hq
        exact pinv_move (h.prod q hq) rfl rfl rfl (.inr e2) (Nat.le_refl _) (fun e' => by omega) (fun e' => by omega)
      · intro r' hr'
        have : (x.stR r).R = some r' := hr'
        rw [eR] at this
        cases this
    · have hfl : flen (x.stR r).s (x.stR r).f = 0 := by
        show flen (rstep x.s x.f r).1 x.f = 0
        unfold flen
        rw [show cHead (rstep x.s x.f r).1 x.f = cHead x.s x.f from e3, show cTail (rstep x.s x.f r).1 x.f = cTail x.s x.f from e4, h.hH, h.hT]
        omega
      rw [ho]
      refine ⟨hr.fresh.2.1, hlt, x.ended - 1, hplc, by show x.ended - 1 < x.pushed.length; omega, fun hc => by simp at hc, fun _ => ⟨c3, ?_, hfl⟩⟩
      show nolag x.lags = x.items.length
      rw [h.cnt, h.il]; exact hHT
end
end Go.Proofs.Ytonjbofdmmnpdaa
