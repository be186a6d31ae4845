/- FeedSteps: the plain law. -/
import Derived.Test.YtonjbofdmmnpdaaFeedPlain
namespace Go.Proofs.Ytonjbofdmmnpdaa
set_option linter.unusedVariables false
set_option linter.unusedSimpArgs false

/-- The reference's number of a reception after a step. -/
def rrv (s : BS) (F : Fd) (r : Rd) (v : Int) : Int :=
  if r.ph = 15 then (if cTail s F = cHead s F then (if r.l = 0 then 0 else v) else v)
  else if r.ph = 16 then lk s.vs (F.ent (cHead s F))
  else if r.ph = 18 then (if r.after < cLag s F then cLag s F else 0)
  else v
/-- What is known of the cells, while the events go on. -/
structure FI (M n : Nat) (s : BS) (F : Fd) : Prop where
  f1 : F.first = 1
  fn : F.n = n
  len : s.vs.length = n + 6
  lg : s.lg.length ≤ M
  h : 0 ≤ cHead s F
  ht : cHead s F ≤ cTail s F
  tn : cTail s F ≤ cHead s F + n
  tM : cTail s F ≤ M
  last : 0 ≤ F.last
structure PdI (n : Nat) (s : BS) (F : Fd) (q : Pd) : Prop where
  t : 0 ≤ q.t ∧ q.t < 16
  p : 0 ≤ q.p ∧ q.p < 18446744073709551616
  ph : q.ph = 0 ∨ q.ph = 26 ∨ q.ph = 27 ∨ q.ph = 28 ∨ q.ph = 29 ∨ q.ph = 30 ∨ q.ph = 31 ∨ q.ph = 32
  room : q.ph = 30 ∨ q.ph = 31 → cTail s F < cHead s F + n
structure RdI (s : BS) (F : Fd) (r : Rd) (v : Int) : Prop where
  t : 0 ≤ r.t ∧ r.t < 16
  ph : r.ph = 0 ∨ r.ph = 14 ∨ r.ph = 15 ∨ r.ph = 16 ∨ r.ph = 17 ∨ r.ph = 18
  item : r.ph = 16 ∨ r.ph = 17 → cHead s F < cTail s F
  same : r.ph = 0 ∨ r.ph = 17 → v = r.value
  zero : r.ph = 14 ∨ r.ph = 15 → r.value = 0

section
variable {M M' n c : Nat} {s s' : BS} {F : Fd} {q : Pd} {r : Rd} {v x : Int}
theorem FI.mono (h : FI M n s F) (hm : M ≤ M') : FI M' n s F := { h with lg := by have := h.lg; omega, tM := by have := h.tM; omega }
theorem FI.same (h : FI M n s F) (hv : s'.vs = s.vs) (hl : s'.lg.length = s.lg.length + 1) : FI (M + 1) n s' F ∧ cHead s' F = cHead s F ∧ cTail s' F = cTail s F := by
  have e1 : cHead s' F = cHead s F := by unfold cHead; rw [hv]
  have e2 : cTail s' F = cTail s F := by unfold cTail; rw [hv]
  have := h.lg
  have := h.tM
  exact ⟨{ h with len := by rw [hv]; exact h.len, lg := by omega, h := by rw [e1]; exact h.h, ht := by rw [e1, e2]; exact h.ht, tn := by rw [e1, e2]; exact h.tn, tM := by rw [e2]; omega }, e1, e2⟩
theorem FI.off (h : FI M n s F) (hv : s'.vs = s.vs.set c x) (h3 : c ≠ 3) (h4 : c ≠ 4) (hl : s'.lg.length = s.lg.length + 1) : FI (M + 1) n s' F ∧ cHead s' F = cHead s F ∧ cTail s' F = cTail s F := by
  have e1 : cHead s' F = cHead s F := by unfold cHead; rw [hv, h.f1]; exact lk_set_ne _ h3
  have e2 : cTail s' F = cTail s F := by unfold cTail; rw [hv, h.f1]; exact lk_set_ne _ h4
  have := h.lg
  have := h.tM
  exact ⟨{ h with len := by rw [hv, List.length_set]; exact h.len, lg := by omega, h := by rw [e1]; exact h.h, ht := by rw [e1, e2]; exact h.ht, tn := by rw [e1, e2]; exact h.tn, tM := by rw [e2]; omega }, e1, e2⟩
theorem FI.ent5 (h : FI M n s F) (i : Int) : 5 ≤ F.ent i := by unfold Fd.ent; rw [h.f1]; omega
theorem RdI.keep (h : RdI s F r v) (e1 : cHead s' F = cHead s F) (e2 : cTail s F ≤ cTail s' F) : RdI s' F r v := { h with item := fun e => by have := h.item e; omega }
theorem PdI.keep (h : PdI n s F q) (e1 : cHead s F ≤ cHead s' F) (e2 : cTail s' F = cTail s F) : PdI n s' F q := { h with room := fun e => by have := h.room e; omega }
theorem lk_sn (l : List Int) (i : Nat) (x : Int) (h : i < l.length) : lk (l.set i x) i = x := by simp [lk, List.getD_eq_getElem?_getD, h]

/-- What a step of a push keeps. -/
theorem pd_inv (h : FI M n s F) (hq : PdI n s F q) (h0 : q.ph ≠ 0) (hM : M ≤ 500000) (hn : n ≤ 100) :
    FI (M + 1) n (pstep s F q).1 F ∧ PdI n (pstep s F q).1 F (q.next (pstep s F q)) ∧ cHead (pstep s F q).1 F = cHead s F ∧ cTail s F ≤ cTail (pstep s F q).1 F := by
  have hf := h.f1
  have hlen := h.len
  have a1 := h.h
  have a2 := h.ht
  have a3 := h.tn
  have a4 := h.tM
  have a5 := h.lg
  rcases hq.ph with e | e | e | e | e | e | e | e
  · exact absurd e h0
  · have ho : pstep s F q = (s.load q.t F.first, if cAct s F = 0 then 0 else 27, q.l) := by unfold pstep; rw [if_pos e]
    obtain ⟨b1, b2, b3⟩ := h.same (s' := s.load q.t F.first) rfl (load_lg ..)
    rw [ho]
    refine ⟨b1, ⟨hq.t, hq.p, ?_, ?_⟩, b2, by rw [b3]; omega⟩
    · show (if cAct s F = 0 then (0 : Int) else 27) = 0 ∨ _
      by_cases hc : cAct s F = 0
      · exact .inl (if_pos hc)
      · exact .inr (.inr (.inl (if_neg hc)))
    · show (if cAct s F = 0 then (0 : Int) else 27) = 30 ∨ (if cAct s F = 0 then (0 : Int) else 27) = 31 → _
      split <;> intro hh <;> omega
  · have ho : pstep s F q = (s.load q.t (F.first + 1 : Nat), if cLag s F = 0 then 29 else 28, cLag s F) := by unfold pstep; rw [if_neg (by omega), if_pos e]
    obtain ⟨b1, b2, b3⟩ := h.same (s' := s.load q.t (F.first + 1 : Nat)) rfl (load_lg ..)
    rw [ho]
    refine ⟨b1, ⟨hq.t, hq.p, ?_, ?_⟩, b2, by rw [b3]; omega⟩
    · show (if cLag s F = 0 then (29 : Int) else 28) = 0 ∨ _
      by_cases hc : cLag s F = 0
      · exact .inr (.inr (.inr (.inr (.inl (if_pos hc)))))
      · exact .inr (.inr (.inr (.inl (if_neg hc))))
    · show (if cLag s F = 0 then (29 : Int) else 28) = 30 ∨ (if cLag s F = 0 then (29 : Int) else 28) = 31 → _
      split <;> intro hh <;> omega
  · have ho : pstep s F q = (s.cas q.t (F.first + 1 : Nat) q.l q.p, if cLag s F = q.l then 0 else 29, q.l) := by unfold pstep; rw [if_neg (by omega), if_neg (by omega), if_pos e]
    have hv := cas_vs s q.t (F.first + 1 : Nat) q.l q.p
    have hl := cas_lg s q.t (F.first + 1 : Nat) q.l q.p
    have hb : FI (M + 1) n (s.cas q.t (F.first + 1 : Nat) q.l q.p) F ∧ cHead (s.cas q.t (F.first + 1 : Nat) q.l q.p) F = cHead s F ∧ cTail (s.cas q.t (F.first + 1 : Nat) q.l q.p) F = cTail s F := by
      by_cases hc : lk s.vs ((F.first + 1 : Nat) : Int).toNat = q.l
      · rw [if_pos hc] at hv
        exact h.off hv (by omega) (by omega) hl
      · rw [if_neg hc] at hv
        exact h.same hv hl
    obtain ⟨b1, b2, b3⟩ := hb
    rw [ho]
    refine ⟨b1, ⟨hq.t, hq.p, ?_, ?_⟩, b2, by rw [b3]; omega⟩
    · show (if cLag s F = q.l then (0 : Int) else 29) = 0 ∨ _
      by_cases hc : cLag s F = q.l
      · exact .inl (if_pos hc)
      · exact .inr (.inr (.inr (.inr (.inl (if_neg hc)))))
    · show (if cLag s F = q.l then (0 : Int) else 29) = 30 ∨ (if cLag s F = q.l then (0 : Int) else 29) = 31 → _
      split <;> intro hh <;> omega
  · have ho : pstep s F q = (s.load q.t (F.first + 2 : Nat), if w64 (cTail s F - cHead s F) < F.n then 30 else 32, q.l) := by unfold pstep; rw [if_neg (by omega), if_neg (by omega), if_neg (by omega), if_pos e]
    obtain ⟨b1, b2, b3⟩ := h.same (s' := s.load q.t (F.first + 2 : Nat)) rfl (load_lg ..)
    have hw : w64 (cTail s F - cHead s F) = cTail s F - cHead s F := by unfold w64; omega
    have hfn := h.fn
    rw [ho]
    refine ⟨b1, ⟨hq.t, hq.p, ?_, ?_⟩, b2, by rw [b3]; omega⟩
    · show (if w64 (cTail s F - cHead s F) < F.n then (30 : Int) else 32) = 0 ∨ _
      by_cases hc : w64 (cTail s F - cHead s F) < F.n
      · exact .inr (.inr (.inr (.inr (.inr (.inl (if_pos hc))))))
      · exact .inr (.inr (.inr (.inr (.inr (.inr (.inr (if_neg hc)))))))
    · show (if w64 (cTail s F - cHead s F) < F.n then (30 : Int) else 32) = 30 ∨ (if w64 (cTail s F - cHead s F) < F.n then (30 : Int) else 32) = 31 → cTail _ F < cHead _ F + n
      rw [b2, b3, hw]
      split <;> intro hh <;> omega
  · have ho : pstep s F q = (s.store q.t (F.ent (cTail s F)) q.p, 31, q.l) := by unfold pstep; rw [if_neg (by omega), if_neg (by omega), if_neg (by omega), if_neg (by omega), if_pos e]
    have h5 := h.ent5 (cTail s F)
    obtain ⟨b1, b2, b3⟩ := h.off (s' := s.store q.t (F.ent (cTail s F)) q.p) (c := ((F.ent (cTail s F) : Nat) : Int).toNat) rfl (by omega) (by omega) (store_lg ..)
    rw [ho]
    refine ⟨b1, ⟨hq.t, hq.p, .inr (.inr (.inr (.inr (.inr (.inr (.inl rfl)))))), fun _ => ?_⟩, b2, by rw [b3]; omega⟩
    show cTail _ F < cHead _ F + n
    rw [b2, b3]
    exact hq.room (.inl e)
  · have ho : pstep s F q = (s.store q.t (F.first + 3 : Nat) (w64 (cTail s F + 1)), 0, q.l) := by unfold pstep; rw [if_neg (by omega), if_neg (by omega), if_neg (by omega), if_neg (by omega), if_neg (by omega), if_pos e]
    have hw : w64 (cTail s F + 1) = cTail s F + 1 := by unfold w64; omega
    have hr := hq.room (.inr e)
    have e1 : cHead (s.store q.t (F.first + 3 : Nat) (w64 (cTail s F + 1))) F = cHead s F := by
      unfold cHead
      exact lk_set_ne (i := ((F.first + 3 : Nat) : Int).toNat) _ (by omega)
    have e2 : cTail (s.store q.t (F.first + 3 : Nat) (w64 (cTail s F + 1))) F = cTail s F + 1 := by
      rw [hw]
      exact lk_sn s.vs (F.first + 3) _ (by omega)
    rw [ho]
    refine ⟨⟨h.f1, h.fn, by show (s.store _ _ _).vs.length = _; rw [store_vs, List.length_set]; exact hlen, by show (s.store _ _ _).lg.length ≤ _; rw [store_lg]; omega, ?_, ?_, ?_, ?_, h.last⟩, ⟨hq.t, hq.p, .inl rfl, fun hh => by rcases hh with hh | hh <;> exact absurd (show (0 : Int) = _ from hh) (by decide)⟩, e1, ?_⟩
    · show 0 ≤ cHead _ F
      rw [e1]; exact a1
    · show cHead _ F ≤ cTail _ F
      rw [e1, e2]; omega
    · show cTail _ F ≤ cHead _ F + n
      rw [e1, e2]; omega
    · show cTail _ F ≤ ((M + 1 : Nat) : Int)
      rw [e2]; omega
    · show cTail s F ≤ cTail _ F
      rw [e2]; omega
  · have ho : pstep s F q = (s.store q.t (F.first + 1 : Nat) q.p, 0, q.l) := by unfold pstep; rw [if_neg (by omega), if_neg (by omega), if_neg (by omega), if_neg (by omega), if_neg (by omega), if_neg (by omega)]
    obtain ⟨b1, b2, b3⟩ := h.off (s' := s.store q.t (F.first + 1 : Nat) q.p) (c := ((F.first + 1 : Nat) : Int).toNat) rfl (by omega) (by omega) (store_lg ..)
    rw [ho]
    exact ⟨b1, ⟨hq.t, hq.p, .inl rfl, fun hh => by rcases hh with hh | hh <;> exact absurd (show (0 : Int) = _ from hh) (by decide)⟩, b2, by rw [b3]; omega⟩
/-- What a step of a reception keeps. -/
theorem rd_inv (h : FI M n s F) (hr : RdI s F r v) (h0 : r.ph ≠ 0) (hM : M ≤ 500000) (hn : n ≤ 100) :
    FI (M + 1) n (rstep s F r).1 F ∧ RdI (rstep s F r).1 F (rstep s F r).2 (rrv s F r v) ∧ cHead s F ≤ cHead (rstep s F r).1 F ∧ cTail (rstep s F r).1 F = cTail s F := by
  have hf := h.f1
  have hlen := h.len
  have a1 := h.h
  have a2 := h.ht
  have a3 := h.tn
  have a4 := h.tM
  have a5 := h.lg
  rcases hr.ph with e | e | e | e | e | e
  · exact absurd e h0
  · have ho : rstep s F r = (s.load r.t (F.first + 1 : Nat), { r with l := cLag s F, ph := 15 }) := by unfold rstep; rw [if_pos e]
    have hv : rrv s F r v = v := by unfold rrv; rw [if_neg (by omega), if_neg (by omega), if_neg (by omega)]
    obtain ⟨b1, b2, b3⟩ := h.same (s' := s.load r.t (F.first + 1 : Nat)) rfl (load_lg ..)
    rw [ho, hv]
    exact ⟨b1, ⟨hr.t, .inr (.inr (.inl rfl)), fun hh => by rcases hh with hh | hh <;> exact absurd (show (15 : Int) = _ from hh) (by decide), fun hh => by rcases hh with hh | hh <;> exact absurd (show (15 : Int) = _ from hh) (by decide), fun _ => hr.zero (.inl e)⟩, by rw [b2]; omega, b3⟩
  · obtain ⟨b1, b2, b3⟩ := h.same (s' := s.load r.t (F.first + 3 : Nat)) rfl (load_lg ..)
    by_cases hc : cTail s F = cHead s F
    · by_cases hl : r.l = 0
      · have ho : rstep s F r = (s.load r.t (F.first + 3 : Nat), { r with ph := 0, err := 17 }) := by unfold rstep; rw [if_neg (by omega), if_pos e, if_pos hc, if_pos hl]
        have hv : rrv s F r v = 0 := by unfold rrv; rw [if_pos e, if_pos hc, if_pos hl]
        rw [ho, hv]
        exact ⟨b1, ⟨hr.t, .inl rfl, fun hh => by rcases hh with hh | hh <;> exact absurd (show (0 : Int) = _ from hh) (by decide), fun _ => (hr.zero (.inr e)).symm, fun hh => by rcases hh with hh | hh <;> exact absurd (show (0 : Int) = _ from hh) (by decide)⟩, by rw [b2]; omega, b3⟩
      · have ho : rstep s F r = (s.load r.t (F.first + 3 : Nat), { r with ph := 18 }) := by unfold rstep; rw [if_neg (by omega), if_pos e, if_pos hc, if_neg hl]
        have hv : rrv s F r v = v := by unfold rrv; rw [if_pos e, if_pos hc, if_neg hl]
        rw [ho, hv]
        exact ⟨b1, ⟨hr.t, .inr (.inr (.inr (.inr (.inr rfl)))), fun hh => by rcases hh with hh | hh <;> exact absurd (show (18 : Int) = _ from hh) (by decide), fun hh => by rcases hh with hh | hh <;> exact absurd (show (18 : Int) = _ from hh) (by decide), fun hh => by rcases hh with hh | hh <;> exact absurd (show (18 : Int) = _ from hh) (by decide)⟩, by rw [b2]; omega, b3⟩
    · have ho : rstep s F r = (s.load r.t (F.first + 3 : Nat), { r with ph := 16 }) := by unfold rstep; rw [if_neg (by omega), if_pos e, if_neg hc]
      have hv : rrv s F r v = v := by unfold rrv; rw [if_pos e, if_neg hc]
      rw [ho, hv]
      exact ⟨b1, ⟨hr.t, .inr (.inr (.inr (.inl rfl))), fun _ => by show cHead _ F < cTail _ F; rw [b2, b3]; omega, fun hh => by rcases hh with hh | hh <;> exact absurd (show (16 : Int) = _ from hh) (by decide), fun hh => by rcases hh with hh | hh <;> exact absurd (show (16 : Int) = _ from hh) (by decide)⟩, by rw [b2]; omega, b3⟩
  · have ho : rstep s F r = (s.load r.t (F.ent (cHead s F)), { r with ph := 17, value := lk s.vs (F.ent (cHead s F)) }) := by unfold rstep; rw [if_neg (by omega), if_neg (by omega), if_pos e]
    have hv : rrv s F r v = lk s.vs (F.ent (cHead s F)) := by unfold rrv; rw [if_neg (by omega), if_pos e]
    obtain ⟨b1, b2, b3⟩ := h.same (s' := s.load r.t (F.ent (cHead s F))) rfl (load_lg ..)
    rw [ho, hv]
    exact ⟨b1, ⟨hr.t, .inr (.inr (.inr (.inr (.inl rfl)))), fun _ => by show cHead _ F < cTail _ F; rw [b2, b3]; exact hr.item (.inl e), fun _ => rfl, fun hh => by rcases hh with hh | hh <;> exact absurd (show (17 : Int) = _ from hh) (by decide)⟩, by rw [b2]; omega, b3⟩
  · have hw : w64 (cHead s F + 1) = cHead s F + 1 := by unfold w64; omega
    have hit := hr.item (.inr e)
    have hv : rrv s F r v = v := by unfold rrv; rw [if_neg (by omega), if_neg (by omega), if_neg (by omega)]
    have ho : rstep s F r = (s.store r.t (F.first + 2 : Nat) (w64 (cHead s F + 1)), if r.value ≤ r.after then { r with ph := 14, value := 0 } else { r with ph := 0 }) := by unfold rstep; rw [if_neg (by omega), if_neg (by omega), if_neg (by omega), if_pos e]
    have e2 : cTail (s.store r.t (F.first + 2 : Nat) (w64 (cHead s F + 1))) F = cTail s F := by
      unfold cTail
      exact lk_set_ne (i := ((F.first + 2 : Nat) : Int).toNat) _ (by omega)
    have e1 : cHead (s.store r.t (F.first + 2 : Nat) (w64 (cHead s F + 1))) F = cHead s F + 1 := by
      rw [hw]
      exact lk_sn s.vs (F.first + 2) _ (by omega)
    have b1 : FI (M + 1) n (s.store r.t (F.first + 2 : Nat) (w64 (cHead s F + 1))) F := by
      refine ⟨h.f1, h.fn, by rw [store_vs, List.length_set]; exact hlen, by rw [store_lg]; omega, ?_, ?_, ?_, ?_, h.last⟩
      · rw [e1]; omega
      · rw [e1, e2]; omega
      · rw [e1, e2]; omega
      · rw [e2]; push_cast; omega
    rw [ho, hv]
    refine ⟨b1, ?_, by show _ ≤ cHead (s.store _ _ _) F; rw [e1]; omega, e2⟩
    show RdI _ F (if r.value ≤ r.after then _ else _) v
    split
    · exact ⟨hr.t, .inr (.inl rfl), fun hh => by rcases hh with hh | hh <;> exact absurd (show (14 : Int) = _ from hh) (by decide), fun hh => by rcases hh with hh | hh <;> exact absurd (show (14 : Int) = _ from hh) (by decide), fun _ => rfl⟩
    · exact ⟨hr.t, .inl rfl, fun hh => by rcases hh with hh | hh <;> exact absurd (show (0 : Int) = _ from hh) (by decide), fun _ => hr.same (.inr e), fun hh => by rcases hh with hh | hh <;> exact absurd (show (0 : Int) = _ from hh) (by decide)⟩
  · have ho : rstep s F r = (s.swap r.t (F.first + 1 : Nat) 0, if r.after < cLag s F then { r with ph := 0, value := cLag s F, lagged := true } else { r with ph := 0, value := 0, lagged := false, err := 17 }) := by unfold rstep; rw [if_neg (by omega), if_neg (by omega), if_neg (by omega), if_neg (by omega)]
    have hv : rrv s F r v = if r.after < cLag s F then cLag s F else 0 := by unfold rrv; rw [if_neg (by omega), if_neg (by omega), if_pos e]
    obtain ⟨b1, b2, b3⟩ := h.off (s' := s.swap r.t (F.first + 1 : Nat) 0) (c := ((F.first + 1 : Nat) : Int).toNat) rfl (by omega) (by omega) (swap_lg ..)
    rw [ho, hv]
    refine ⟨b1, ?_, by show _ ≤ cHead (s.swap _ _ _) F; rw [b2]; omega, b3⟩
    show RdI _ F (if r.after < cLag s F then _ else _) _
    split
    · exact ⟨hr.t, .inl rfl, fun hh => by rcases hh with hh | hh <;> exact absurd (show (0 : Int) = _ from hh) (by decide), fun _ => rfl, fun hh => by rcases hh with hh | hh <;> exact absurd (show (0 : Int) = _ from hh) (by decide)⟩
    · exact ⟨hr.t, .inl rfl, fun hh => by rcases hh with hh | hh <;> exact absurd (show (0 : Int) = _ from hh) (by decide), fun _ => rfl, fun hh => by rcases hh with hh | hh <;> exact absurd (show (0 : Int) = _ from hh) (by decide)⟩
end
end Go.Proofs.Ytonjbofdmmnpdaa
