/- The queue: the plain law of a run, its pulls. -/
import Derived.Test.YtpkjjlahmjijnaaQLawB
namespace Go.Proofs.Ytpkjjlahmjijnaa
set_option linter.unusedVariables false
set_option linter.unusedSimpArgs false

section
variable {n : Nat} {x : Xq}

/-- A pull is begun. -/
theorem inv_pull (h : QInv n x) (hn : x.pull = none) (t : Int) (ht : 0 ≤ t ∧ t < 16) : QInv n { x with pull := some ⟨t, x.pl.length, 0, 19, 0, false⟩ } := by
  have no : ∀ q : Pl, some (⟨t, x.pl.length, 0, 19, 0, false⟩ : Pl) = some q → q.ph ≠ 21 := by
    intro q hq; obtain rfl := Option.some.inj hq; show (19 : Int) ≠ 21; decide
  refine ⟨h.n1, h.n2, h.len, h.hT, h.hH, h.le, h.room, h.pre, h.pos, h.ls, h.lo, h.pu, h.inj, h.pot, h.ce0, ?_, ?_, h.fr, ?_, h.cnt⟩
  · intro i a b c d
    exact h.ce1 i a b c (fun ⟨_, q, hq, _⟩ => by rw [hn] at hq; cases hq)
  · intro q hq e
    exact absurd e (no q hq)
  · intro q hq
    obtain rfl := Option.some.inj hq
    exact ⟨rfl, rfl, rfl, ht, .inl rfl⟩

/-- A pull ends without an access to the queue's state. -/
theorem inv_pull_end (h : QInv n x) {q : Pl} (hq : x.pull = some q) (h19 : q.ph = 19) (s' : BS) (hv : s'.vs = x.s.vs) : QInv n { x with s := s', pull := none } := by
  refine ⟨h.n1, h.n2, by rw [hv]; exact h.len, by rw [hv]; exact h.hT, by rw [hv]; exact h.hH, h.le, h.room, h.pre, h.pos, h.ls, h.lo, h.pu, h.inj, h.pot, ?_, ?_, ?_, ?_, ?_, h.cnt⟩
  · intro i a b c
    show lk s'.vs _ = 0
    rw [hv]; exact h.ce0 i a b c
  · intro i a b c d
    show lk s'.vs _ = _
    rw [hv]
    refine h.ce1 i a b c (fun ⟨_, q', hq', e⟩ => ?_)
    rw [hq] at hq'
    obtain rfl := Option.some.inj hq'
    rw [h19] at e; cases e
  · intro q' hq'; cases hq'
  · intro c a b
    show lk s'.vs _ = 0
    rw [hv]; exact h.fr c a b
  · intro q' hq'; cases hq'

/-- The step that finds a value. -/
theorem inv_take (h : QInv n x) {q : Pl} (hq : x.pull = some q) (h19 : q.ph = 19) (s' : BS) (hv : s'.vs = x.s.vs) (hc : lk x.s.vs ((lawQ n).ent q.at') ≠ 0) :
    x.pl.length < x.rs.length ∧ QInv n { x with s := s', pull := some { q with got := lk x.s.vs ((lawQ n).ent q.at'), ph := 20 } } := by
  obtain ⟨b1, b2, b3, b4, _⟩ := h.pull q hq
  have hent : (lawQ n).ent q.at' = 2 + x.pl.length % n := by rw [b1, ent_law]
  have b1' := b1
  rw [hent] at hc ⊢
  have hnpos : 0 < n := h.n1
  have hlt : x.pl.length < x.rs.length := by
    by_cases hh : x.pl.length < x.rs.length
    · exact hh
    · exact absurd (h.fr _ (Nat.mod_lt _ hnpos) (fun i a b => absurd b (by omega))) hc
  have hnp : ¬ Pend x.ps x.pl.length := fun e => hc (h.ce0 _ (Nat.le_refl _) hlt e)
  have hval := h.ce1 _ (Nat.le_refl _) hlt hnp (fun ⟨_, q', hq', e⟩ => by
    rw [hq] at hq'
    obtain rfl := Option.some.inj hq'
    rw [h19] at e; cases e)
  refine ⟨hlt, h.n1, h.n2, by rw [hv]; exact h.len, by rw [hv]; exact h.hT, by rw [hv]; exact h.hH, h.le, h.room, h.pre, h.pos, h.ls, h.lo, h.pu, h.inj, h.pot, ?_, ?_, ?_, ?_, ?_, h.cnt⟩
  · intro i a b c
    show lk s'.vs _ = 0
    rw [hv]; exact h.ce0 i a b c
  · intro i a b c d
    show lk s'.vs _ = _
    rw [hv]
    refine h.ce1 i a b c (fun ⟨_, q', hq', e⟩ => ?_)
    rw [hq] at hq'
    obtain rfl := Option.some.inj hq'
    rw [h19] at e; cases e
  · intro q' hq' e
    obtain rfl := Option.some.inj hq'
    exact absurd (show (20 : Int) = 21 from e) (by decide)
  · intro c a b
    show lk s'.vs _ = 0
    rw [hv]; exact h.fr c a b
  · intro q' hq'
    obtain rfl := Option.some.inj hq'
    exact ⟨b1', b2, b3, b4, .inr ⟨.inl rfl, hlt, hval, hnp⟩⟩

/-- The step that clears the entry. -/
theorem inv_clear (h : QInv n x) {q : Pl} (hq : x.pull = some q) (h20 : q.ph = 20) :
    QInv n { x with s := x.s.store q.t ((lawQ n).ent q.at' : Nat) 0, pull := some { q with ph := 21 } } := by
  obtain ⟨b1, b2, b3, b4, b5⟩ := h.pull q hq
  have hnpos : 0 < n := h.n1
  rcases b5 with b5 | ⟨c1, c2, c3, c4⟩
  · rw [h20] at b5; cases b5
  have hvs : (x.s.store q.t ((lawQ n).ent q.at' : Nat) 0).vs = x.s.vs.set (2 + x.pl.length % n) 0 := by
    rw [store_vs, Int.toNat_natCast, b1, ent_law]
  have hm := Nat.mod_lt x.pl.length hnpos
  have hroom := h.room
  have hcell : ∀ i : Nat, x.pl.length ≤ i → i < x.rs.length → i ≠ x.pl.length → lk (x.s.vs.set (2 + x.pl.length % n) 0) (2 + i % n) = lk x.s.vs (2 + i % n) := by
    intro i a b c
    refine lk_set_ne _ fun e => c ?_
    exact mod_inj (H := x.pl.length) hnpos a (by omega) (by omega) (by omega) (by omega)
  refine ⟨h.n1, h.n2, by show List.length (BS.vs _) = _; rw [hvs]; simp [h.len], ?_, ?_, h.le, h.room, h.pre, h.pos, h.ls, h.lo, h.pu, h.inj, h.pot, ?_, ?_, ?_, ?_, ?_, h.cnt⟩
  · show lk (BS.vs _) 1 = _
    rw [hvs, lk_set_ne _ (by omega)]; exact h.hT
  · show lk (BS.vs _) 0 = _
    rw [hvs, lk_set_ne _ (by omega)]; exact h.hH
  · intro i a b c
    show lk (BS.vs _) _ = 0
    have hi : i ≠ x.pl.length := fun e => c4 (by rw [← e]; exact c)
    rw [hvs, hcell i a b hi]
    exact h.ce0 i a b c
  · intro i a b c d
    show lk (BS.vs _) _ = _
    have hi : i ≠ x.pl.length := fun e => d ⟨e, _, rfl, rfl⟩
    rw [hvs, hcell i a b hi]
    exact h.ce1 i a b c (fun ⟨e, _⟩ => hi e)
  · intro q' hq' e
    show lk (BS.vs _) _ = 0
    rw [hvs, lk_set _ (by rw [h.len]; omega)]
  · intro c a b
    show lk (BS.vs _) _ = 0
    have := b x.pl.length (Nat.le_refl _) c2
    rw [hvs, lk_set_ne _ (by omega)]
    exact h.fr c a b
  · intro q' hq'
    obtain rfl := Option.some.inj hq'
    exact ⟨b1, b2, b3, b4, .inr ⟨.inr rfl, c2, c3, c4⟩⟩

theorem take_lk {l : List Int} {i : Nat} (h : i < l.length) : l.take (i + 1) = l.take i ++ [lk l i] := by
  rw [List.take_succ_eq_append_getElem h]
  simp [lk, List.getD_eq_getElem?_getD, h]

/-- The step that removes the entry. -/
theorem inv_advance (h : QInv n x) {q : Pl} (hq : x.pull = some q) (h21 : q.ph = 21) (hlt : x.rs.length < 1000000) :
    q.got ≠ 0 ∧ QInv n { x with s := x.s.store q.t 0 (w64 (q.at' + 1)), pull := none, pl := x.pl ++ [q.got] } := by
  obtain ⟨b1, b2, b3, b4, b5⟩ := h.pull q hq
  have hnpos : 0 < n := h.n1
  rcases b5 with b5 | ⟨c1, c2, c3, c4⟩
  · rw [h21] at b5; cases b5
  have hvs : (x.s.store q.t 0 (w64 (q.at' + 1))).vs = x.s.vs.set 0 (x.pl.length + 1) := by
    rw [store_vs, b1]
    congr 1
    unfold w64; omega
  have hcell : ∀ c, lk (x.s.vs.set 0 ((x.pl.length : Int) + 1)) (2 + c) = lk x.s.vs (2 + c) := fun c => lk_set_ne _ (by omega)
  have hroom := h.room
  refine ⟨by rw [c3]; exact h.pos _ c2, h.n1, h.n2, by show List.length (BS.vs _) = _; rw [hvs]; simp [h.len], ?_, ?_, ?_, ?_, ?_, h.pos, h.ls, h.lo, ?_, h.inj, h.pot, ?_, ?_, ?_, ?_, ?_, h.cnt⟩
  · show lk (BS.vs _) 1 = _
    rw [hvs, lk_set_ne _ (by decide)]; exact h.hT
  · show lk (BS.vs _) 0 = _
    rw [hvs, lk_set _ (by rw [h.len]; omega)]; simp
  · show (x.pl ++ [q.got]).length ≤ _
    simp; omega
  · show _ ≤ (x.pl ++ [q.got]).length + n
    simp; omega
  · show x.pl ++ [q.got] = x.rs.take (x.pl ++ [q.got]).length
    rw [show (x.pl ++ [q.got]).length = x.pl.length + 1 by simp, take_lk c2, ← h.pre, c3]
  · intro j p hj
    have ok := h.pu j p hj
    refine ⟨ok.v, ok.t, ok.ph, ok.er, ok.p5, fun e => ?_, fun e => ?_⟩
    · have := ok.p6 e
      simp; omega
    · obtain ⟨a1, a2, a3⟩ := ok.p7 e
      have : p.fr ≠ x.pl.length := fun e' => c4 ⟨j, p, hj, e, e'⟩
      exact ⟨by simp; omega, a2, a3⟩
  · intro i a b c
    show lk (BS.vs _) _ = 0
    have a' : x.pl.length + 1 ≤ i := by simpa using a
    rw [hvs, hcell]; exact h.ce0 i (by omega) b c
  · intro i a b c d
    show lk (BS.vs _) _ = _
    have a' : x.pl.length + 1 ≤ i := by simpa using a
    rw [hvs, hcell]; exact h.ce1 i (by omega) b c (fun e => by omega)
  · intro q' hq'; cases hq'
  · intro c a b
    show lk (BS.vs _) _ = 0
    rw [hvs, hcell]
    by_cases hc : x.pl.length % n = c
    · rw [← hc]; exact h.ce2 q hq h21
    · refine h.fr c a fun i d1 d2 => ?_
      by_cases e : i = x.pl.length
      · subst e; exact hc
      · refine b i ?_ d2
        show (x.pl ++ [q.got]).length ≤ i
        simp; omega
  · intro q' hq'; cases hq'

/-- What a step of the pull leaves. -/
def Xq.pulled (n : Nat) (x : Xq) (q : Pl) : Xq :=
  if (plstep x.s (lawQ n) q).2.ph = 0 then { x with s := (plstep x.s (lawQ n) q).1, pull := none, pl := if (plstep x.s (lawQ n) q).2.er = 0 then x.pl ++ [(plstep x.s (lawQ n) q).2.got] else x.pl }
  else { x with s := (plstep x.s (lawQ n) q).1, pull := some (plstep x.s (lawQ n) q).2 }

/-- What a step of the pull shows. -/
structure PlShow (n : Nat) (x : Xq) (q : Pl) : Prop where
  inv : QInv n (x.pulled n q)
  lg : (plstep x.s (lawQ n) q).1.lg.length = x.s.lg.length + 1
  fin : (plstep x.s (lawQ n) q).2.fin = decide ((plstep x.s (lawQ n) q).2.ph = 0)
  er : (plstep x.s (lawQ n) q).2.ph = 0 → (plstep x.s (lawQ n) q).2.er = 0 ∨ ((plstep x.s (lawQ n) q).2.er = 17 ∧ (plstep x.s (lawQ n) q).2.got = 0 ∧ (x.pulled n q).s.vs = x.s.vs ∧ lk x.s.vs (2 + x.pl.length % n) = 0)
  ph : (q.ph = 19 ∧ ((plstep x.s (lawQ n) q).2.ph = 0 ∧ (plstep x.s (lawQ n) q).2.er = 17 ∨ (plstep x.s (lawQ n) q).2.ph = 20 ∧ x.pl.length < x.rs.length)) ∨ (q.ph = 20 ∧ (plstep x.s (lawQ n) q).2.ph = 21) ∨ (q.ph = 21 ∧ (plstep x.s (lawQ n) q).2.ph = 0 ∧ (plstep x.s (lawQ n) q).2.er = 0)

theorem inv_plstep (h : QInv n x) {q : Pl} (hq : x.pull = some q) (hlt : x.rs.length < 1000000) : PlShow n x q := by
  obtain ⟨b1, b2, b3, b4, b5⟩ := h.pull q hq
  have hph : q.ph = 19 ∨ q.ph = 20 ∨ q.ph = 21 := by
    rcases b5 with b5 | ⟨c1, _⟩
    · exact .inl b5
    · exact .inr c1
  rcases hph with e | e | e
  · by_cases hc : lk x.s.vs ((lawQ n).ent q.at') = 0
    · have hs := plstep19a e hc
      have hp : x.pulled n q = { x with s := x.s.load q.t ((lawQ n).ent q.at' : Nat), pull := none } := by
        unfold Xq.pulled; rw [hs]; rw [if_pos rfl, if_neg (by show ¬ (17 : Int) = 0; decide)]
      refine ⟨?_, ?_, ?_, ?_, ?_⟩
      · rw [hp]; exact inv_pull_end h hq e _ (load_vs _ _ _)
      · rw [hs]; exact load_lg _ _ _
      · rw [hs]; rfl
      · intro _
        rw [hs]
        refine .inr ⟨rfl, rfl, by rw [hp]; exact load_vs _ _ _, ?_⟩
        rw [b1, ent_law] at hc; exact hc
      · rw [hs]; exact .inl ⟨e, .inl ⟨rfl, rfl⟩⟩
    · have hs := plstep19b e hc
      have hp : x.pulled n q = { x with s := x.s.load q.t ((lawQ n).ent q.at' : Nat), pull := some { q with got := lk x.s.vs ((lawQ n).ent q.at'), ph := 20 } } := by
        unfold Xq.pulled; rw [hs]; rw [if_neg (by show ¬ (20 : Int) = 0; decide)]
      obtain ⟨i1, i2⟩ := inv_take h hq e (x.s.load q.t ((lawQ n).ent q.at' : Nat)) (load_vs _ _ _) hc
      refine ⟨?_, ?_, ?_, ?_, ?_⟩
      · rw [hp]; exact i2
      · rw [hs]; exact load_lg _ _ _
      · rw [hs]; show q.fin = _; rw [b3]; rfl
      · rw [hs]; intro e'; exact absurd (show (20 : Int) = 0 from e') (by decide)
      · rw [hs]; exact .inl ⟨e, .inr ⟨rfl, i1⟩⟩
  · have hs := plstep20 (s := x.s) (f := lawQ n) e
    have hp : x.pulled n q = { x with s := x.s.store q.t ((lawQ n).ent q.at' : Nat) 0, pull := some { q with ph := 21 } } := by
      unfold Xq.pulled; rw [hs]; rw [if_neg (by show ¬ (21 : Int) = 0; decide)]
    refine ⟨?_, ?_, ?_, ?_, ?_⟩
    · rw [hp]; exact inv_clear h hq e
    · rw [hs]; exact store_lg _ _ _ _
    · rw [hs]; show q.fin = _; rw [b3]; rfl
    · rw [hs]; intro e'; exact absurd (show (21 : Int) = 0 from e') (by decide)
    · rw [hs]; exact .inr (.inl ⟨e, rfl⟩)
  · have hs := plstep21 (s := x.s) (f := lawQ n) e
    have hp : x.pulled n q = { x with s := x.s.store q.t 0 (w64 (q.at' + 1)), pull := none, pl := x.pl ++ [q.got] } := by
      unfold Xq.pulled; rw [hs]; rw [if_pos rfl, if_pos b2]; rfl
    refine ⟨?_, ?_, ?_, ?_, ?_⟩
    · rw [hp]; exact (inv_advance h hq e hlt).2
    · rw [hs]; exact store_lg _ _ _ _
    · rw [hs]; rfl
    · rw [hs]; intro _; exact .inl b2
    · rw [hs]; exact .inr (.inr ⟨e, rfl, b2⟩)
end
end Go.Proofs.Ytpkjjlahmjijnaa
