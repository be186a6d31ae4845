/- The feed: a run drained, the plain law. -/
import Derived.Test.YtonjbofdmmnpdaaFeedLawB
namespace Go.Proofs.Ytonjbofdmmnpdaa
open Go.RowKit
set_option linter.unusedVariables false
set_option linter.unusedSimpArgs false

/-- How many receptions will return something when nothing more is pushed. -/
def pot (s : BS) (f : Fd) : Nat := flen s f + if cLag s f = 0 then 0 else 1
theorem pot_vs {s s' : BS} {f : Fd} (h : s'.vs = s.vs) : pot s' f = pot s f := by
  unfold pot flen cTail cHead cLag
  rw [h]

section
variable {y : Xs} {m H T a : Nat}

/-- A step of a reception while nothing is pushed. -/
theorem drain_step (h : Inv y m H T a) (hm : m ≤ 1000) {r : Rd} (hR : y.R = some r) (hP : y.P = none) (hL : r.ph = 15 → r.l = cLag y.s y.f) :
    ((rstep y.s y.f r).2.ph ≠ 0 → ((rstep y.s y.f r).2.ph = 15 → (rstep y.s y.f r).2.l = cLag (rstep y.s y.f r).1 y.f) ∧ pot (rstep y.s y.f r).1 y.f = pot y.s y.f) ∧
    ((rstep y.s y.f r).2.ph = 0 → ((rstep y.s y.f r).2.err = 0 ∧ pot (rstep y.s y.f r).1 y.f + 1 = pot y.s y.f) ∨ ((rstep y.s y.f r).2.err = 17 ∧ T = H ∧ cLag y.s y.f = 0)) := by
  have hr := h.cons r hR
  have g1 := h.HT
  have hv := h.vl
  have h0 := h.f0
  have hpl := h.pl
  rw [hP] at hpl
  rcases hr.ph with e | e | e | e | e
  · have ho : rstep y.s y.f r = (y.s.load r.t (y.f.first + 1 : Nat), { r with l := cLag y.s y.f, ph := 15 }) := by unfold rstep; rw [if_pos e]
    rw [ho]
    exact ⟨fun _ => ⟨fun _ => rfl, pot_vs rfl⟩, fun hc => by simp at hc⟩
  · by_cases hc : cTail y.s y.f = cHead y.s y.f
    · have hTH : T = H := by rw [h.hT, h.hH] at hc; omega
      by_cases hl : r.l = 0
      · have ho : rstep y.s y.f r = (y.s.load r.t (y.f.first + 3 : Nat), { r with ph := 0, err := 17 }) := by unfold rstep; rw [if_neg (by omega), if_pos e, if_pos hc, if_pos hl]
        rw [ho]
        exact ⟨fun hn => absurd rfl hn, fun _ => .inr ⟨rfl, hTH, (hL e).symm.trans hl⟩⟩
      · have ho : rstep y.s y.f r = (y.s.load r.t (y.f.first + 3 : Nat), { r with ph := 18 }) := by unfold rstep; rw [if_neg (by omega), if_pos e, if_pos hc, if_neg hl]
        rw [ho]
        exact ⟨fun _ => ⟨fun hc => by simp at hc, pot_vs rfl⟩, fun hc => by simp at hc⟩
    · have ho : rstep y.s y.f r = (y.s.load r.t (y.f.first + 3 : Nat), { r with ph := 16 }) := by unfold rstep; rw [if_neg (by omega), if_pos e, if_neg hc]
      rw [ho]
      exact ⟨fun _ => ⟨fun hc => by simp at hc, pot_vs rfl⟩, fun hc => by simp at hc⟩
  · have ho : rstep y.s y.f r = (y.s.load r.t (y.f.ent (cHead y.s y.f) : Nat), { r with ph := 17, value := lk y.s.vs (y.f.ent (cHead y.s y.f)) }) := by unfold rstep; rw [if_neg (by omega), if_neg (by omega), if_pos e]
    rw [ho]
    exact ⟨fun _ => ⟨fun hc => by simp at hc, pot_vs rfl⟩, fun hc => by simp at hc⟩
  · have h17 := hr.have17 e
    have hw : w64 (cHead y.s y.f + 1) = (H + 1 : Nat) := by rw [h.hH, w64_small (by omega) (by omega)]; omega
    have hval : r.value = lk y.pushed a := by rw [h17.2, h.itp H (Nat.le_refl _) h17.1]; simp
    have hal : a < y.pushed.length := by
      have := h.alen
      rcases h.lag with ⟨_, c⟩ | ⟨_, c, _⟩
      · simp at hpl; omega
      · simp at hpl; omega
    have hlt : lastI y.got < r.value := by rw [hval]; exact lastI_lt h hal (Nat.le_refl _)
    have hn : ¬ r.value ≤ r.after := by rw [hr.after]; omega
    have ho : rstep y.s y.f r = (y.s.store r.t (y.f.first + 2 : Nat) (H + 1 : Nat), { r with ph := 0 }) := by unfold rstep; rw [if_neg (by omega), if_neg (by omega), if_neg (by omega), if_pos e, if_neg hn, hw]
    rw [ho]
    refine ⟨fun hn => absurd rfl hn, fun _ => .inl ⟨hr.fresh.2.1, ?_⟩⟩
    have es : (y.s.store r.t (y.f.first + 2 : Nat) (H + 1 : Nat)).vs = y.s.vs.set (y.f.first + 2) ((H + 1 : Nat) : Int) := rfl
    have e2 : cLag (y.s.store r.t (y.f.first + 2 : Nat) (H + 1 : Nat)) y.f = cLag y.s y.f := by show lk (y.s.store r.t (y.f.first + 2 : Nat) (H + 1 : Nat)).vs (y.f.first + 1) = _; rw [es]; exact lk_set_ne _ (by omega)
    have e3 : cHead (y.s.store r.t (y.f.first + 2 : Nat) (H + 1 : Nat)) y.f = ((H + 1 : Nat) : Int) := by show lk (y.s.store r.t (y.f.first + 2 : Nat) (H + 1 : Nat)).vs (y.f.first + 2) = _; rw [es]; exact lk_set _ (by omega)
    have e4 : cTail (y.s.store r.t (y.f.first + 2 : Nat) (H + 1 : Nat)) y.f = cTail y.s y.f := by show lk (y.s.store r.t (y.f.first + 2 : Nat) (H + 1 : Nat)).vs (y.f.first + 3) = _; rw [es]; exact lk_set_ne _ (by omega)
    unfold pot flen
    rw [e2, e3, e4, h.hH, h.hT]
    omega
  · have h18 := hr.lag e
    obtain ⟨c1, c2, c3, c4⟩ : cLag y.s y.f = lk y.pushed (y.ended - 1) ∧ a + (T - H) < y.ended ∧ y.full = true ∧ ∀ q, y.P = some q → q.ph ≤ 28 := by
      rcases h.lag with ⟨c, _⟩ | c
      · exact absurd c h18.1
      · exact c
    have hlt : lastI y.got < cLag y.s y.f := by rw [c1]; exact lastI_lt h (by simp at hpl; omega) (by omega)
    have hn : r.after < cLag y.s y.f := by rw [hr.after]; exact hlt
    have ho : rstep y.s y.f r = (y.s.swap r.t (y.f.first + 1 : Nat) 0, { r with ph := 0, value := cLag y.s y.f, lagged := true }) := by unfold rstep; rw [if_neg (by omega), if_neg (by omega), if_neg (by omega), if_neg (by omega), if_pos hn]
    rw [ho]
    refine ⟨fun hn => absurd rfl hn, fun _ => .inl ⟨hr.fresh.2.1, ?_⟩⟩
    have es : (y.s.swap r.t (y.f.first + 1 : Nat) 0).vs = y.s.vs.set (y.f.first + 1) 0 := rfl
    have e2 : cLag (y.s.swap r.t (y.f.first + 1 : Nat) 0) y.f = 0 := by show lk (y.s.swap r.t (y.f.first + 1 : Nat) 0).vs (y.f.first + 1) = _; rw [es]; exact lk_set _ (by omega)
    have e3 : cHead (y.s.swap r.t (y.f.first + 1 : Nat) 0) y.f = cHead y.s y.f := by show lk (y.s.swap r.t (y.f.first + 1 : Nat) 0).vs (y.f.first + 2) = _; rw [es]; exact lk_set_ne _ (by omega)
    have e4 : cTail (y.s.swap r.t (y.f.first + 1 : Nat) 0) y.f = cTail y.s y.f := by show lk (y.s.swap r.t (y.f.first + 1 : Nat) 0).vs (y.f.first + 3) = _; rw [es]; exact lk_set_ne _ (by omega)
    unfold pot flen
    rw [e2, e3, e4, if_pos rfl, if_neg h18.1]

/-- What is left out of a run without a push and a reception. -/
theorem inv_reset (h : Inv y m H T a) (hP : y.P = none) (hR : y.R = none) (tk lo : Nat) (cl : Bool) : Inv { y with takes := tk, looked := lo, clean := cl } m H T a :=
  { n1 := h.n1, f0 := h.f0, vl := h.vl, lg := h.lg, act := h.act, hH := h.hH, hT := h.hT, HT := h.HT, ring := h.ring, il := h.il, inc := h.inc, pos := h.pos, pl := h.pl, pm := h.pm, itp := h.itp, lag := h.lag, lst := h.lst, gl := h.gl, cnt := h.cnt, flast := h.flast, fpr := h.fpr, prod := fun q hq => absurd (hP.symm.trans hq) (by simp), cons := fun q hq => absurd (hR.symm.trans hq) (by simp) }
/-- Nothing is left. -/
theorem drained (h : Inv y m H T a) (hP : y.P = none) (hTH : T = H) (hl : cLag y.s y.f = 0) : y.pushed.length = 0 ∨ (0 < y.pushed.length ∧ lastI y.got = lastI y.pushed) := by
  have hpl := h.pl
  rw [hP] at hpl
  simp at hpl
  have he : y.ended = a := by
    rcases h.lag with ⟨_, c⟩ | ⟨c, c2, _⟩
    · omega
    · have := (h.pos (y.ended - 1) (by omega)).1
      rw [← c, hl] at this
      omega
  rcases h.lst with ⟨c, _⟩ | ⟨c, _, c2⟩
  · exact .inl (by omega)
  · refine .inr ⟨by omega, ?_⟩
    rw [c2, lastI_pos (by omega)]
    congr 1
    omega
/-- At most as many as the feed has items, and one. -/
theorem pot_le (h : Inv y m H T a) : pot y.s y.f ≤ y.f.n + 1 := by
  have g := h.HT
  unfold pot flen
  rw [h.hH, h.hT]
  split <;> omega
end
end Go.Proofs.Ytonjbofdmmnpdaa
