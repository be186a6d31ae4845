/- The queue: the plain law of a run, its steps. -/
import Derived.Test.YtpkjjlahmjijnaaQLaw
namespace Go.Proofs.Ytpkjjlahmjijnaa
set_option linter.unusedVariables false
set_option linter.unusedSimpArgs false

section
variable {n : Nat} {x : Xq}

theorem inv_zero (h1 : 1 ≤ n) (h2 : n ≤ 64) : QInv n ⟨⟨List.replicate (n + 2) 0, []⟩, [], [], [], [], [], none⟩ := by
  have hz : ∀ c, lk (List.replicate (n + 2) (0 : Int)) c = 0 := by
    intro c
    simp only [lk, List.getD_eq_getElem?_getD, List.getElem?_replicate]
    split <;> rfl
  refine ⟨h1, h2, by simp, hz _, hz _, Nat.le_refl _, by simp, rfl, fun i hi => ?_, rfl, rfl, fun k p hk => ?_, fun j k p q hj => ?_, fun k p hk => ?_, fun i _ hi => ?_, fun i _ hi => ?_, fun q hq => ?_, fun c _ _ => hz _, fun q hq => ?_, rfl⟩
  · simp at hi
  · simp at hk
  · simp at hj
  · simp at hk
  · simp at hi
  · simp at hi
  · cases hq
  · cases hq

theorem app_get {l : List Pu} {j : Nat} {p q : Pu} (h : (l ++ [p])[j]? = some q) : (j = l.length ∧ q = p) ∨ l[j]? = some q := by
  rw [List.getElem?_append] at h
  split at h
  · exact .inr h
  · have hj : j - l.length = 0 := by
      have := (List.getElem?_eq_some_iff.1 h).1
      simp at this
      omega
    rw [hj] at h
    simp at h
    exact .inl ⟨by omega, h.symm⟩

/-- A push is begun. -/
theorem inv_push (h : QInv n x) (t v : Int) (ht : 0 ≤ t ∧ t < 16) (hv : 0 < v ∧ v < 18446744073709551616) : QInv n { x with ps := x.ps ++ [⟨t, v, 0, 0, 4, 0⟩], st := x.st ++ [0], ot := x.ot ++ [0] } := by
  have hpend : ∀ i, Pend (x.ps ++ [⟨t, v, 0, 0, 4, 0⟩]) i ↔ Pend x.ps i := by
    intro i
    constructor
    · rintro ⟨j, q, hj, hq, he⟩
      rcases app_get hj with ⟨_, rfl⟩ | hj
      · exact absurd (show (4 : Int) = 7 from hq) (by decide)
      · exact ⟨j, q, hj, hq, he⟩
    · rintro ⟨j, q, hj, hq, he⟩
      refine ⟨j, q, ?_, hq, he⟩
      rw [List.getElem?_append_left (List.getElem?_eq_some_iff.1 hj).1]
      exact hj
  refine ⟨h.n1, h.n2, h.len, h.hT, h.hH, h.le, h.room, h.pre, h.pos, by simp [h.ls], by simp [h.lo], ?_, ?_, ?_, ?_, ?_, h.ce2, h.fr, ?_, ?_⟩
  · intro j q hj
    rcases app_get hj with ⟨_, rfl⟩ | hj
    · refine ⟨hv, ht, by simp, .inl ⟨by show (4 : Int) ≠ 0; decide, rfl⟩, fun e => ?_, fun e => ?_, fun e => ?_⟩
      · rcases e with e | e
        · exact absurd (show (4 : Int) = 5 from e) (by decide)
        · exact absurd (show (4 : Int) = 6 from e) (by decide)
      · exact absurd (show (4 : Int) = 6 from e) (by decide)
      · exact absurd (show (4 : Int) = 7 from e) (by decide)
    · exact h.pu j q hj
  · intro j j' q q' hj hj' a b e
    rcases app_get hj with ⟨_, rfl⟩ | hj
    · exact absurd (show (4 : Int) = 7 from a) (by decide)
    rcases app_get hj' with ⟨_, rfl⟩ | hj'
    · exact absurd (show (4 : Int) = 7 from b) (by decide)
    exact h.inj j j' q q' hj hj' a b e
  · intro j q hj
    show Pot _ _ (lk (x.st ++ [0]) j) (lk (x.ot ++ [0]) j)
    rcases app_get hj with ⟨rfl, rfl⟩ | hj
    · rw [← h.ls, lk_snoc, h.ls, ← h.lo, lk_snoc]
      exact ⟨by decide, by decide, fun _ => by decide, fun e => absurd (show (4 : Int) = 5 from e) (by decide), fun e => absurd (show (4 : Int) = 6 from e) (by decide), fun e => absurd (show (4 : Int) = 7 from e) (by decide), by decide⟩
    · have := h.at_lt hj
      rw [lk_app_l (by rw [h.ls]; exact this), lk_app_l (by rw [h.lo]; exact this)]
      exact h.pot j q hj
  · intro i a b c
    exact h.ce0 i a b ((hpend _).1 c)
  · intro i a b c d
    exact h.ce1 i a b (fun e => c ((hpend _).2 e)) d
  · intro q a
    obtain ⟨b1, b2, b3, b4, b5⟩ := h.pull q a
    refine ⟨b1, b2, b3, b4, ?_⟩
    rcases b5 with b5 | ⟨c1, c2, c3, c4⟩
    · exact .inl b5
    · exact .inr ⟨c1, c2, c3, fun e => c4 ((hpend _).1 e)⟩
  · have hc := h.cnt
    show (x.ps ++ [_]).countP Pu.has = x.rs.length
    simp [List.countP_append, Pu.has]
    exact hc

/-- What step k of a push leaves. -/
def Xq.after (n : Nat) (x : Xq) (k : Nat) (p : Pu) : Xq :=
  { x with
    s := (pustep x.s (lawQ n) p).1
    ps := x.ps.set k (pustep x.s (lawQ n) p).2
    st := x.st.set k (lk x.st k + 1)
    rs := if p.ph = 6 ∧ (pustep x.s (lawQ n) p).2.ph = 7 then x.rs ++ [p.v] else x.rs
    ot := if p.ph = 6 ∧ (pustep x.s (lawQ n) p).2.ph = 7 then bumped k (x.ps.set k (pustep x.s (lawQ n) p).2) (x.st.set k (lk x.st k + 1)) x.ot else x.ot }

theorem er_live {p : Pu} {H T n : Nat} {rs : List Int} (h : PuOk H T n rs p) (hp : p.ph ≠ 0) : p.er = 0 := by
  rcases h.er with ⟨_, e⟩ | ⟨e, _⟩
  · exact e
  · exact absurd e hp

theorem has_live {p : Pu} (h7 : p.ph ≠ 7) (h0 : p.ph ≠ 0) : p.has = false := by
  have a1 : (p.ph == 7) = false := by rw [beq_eq_false_iff_ne]; exact h7
  have a2 : (p.ph == 0) = false := by rw [beq_eq_false_iff_ne]; exact h0
  simp [Pu.has, a1, a2]

/-- How many steps of its own push k wants. -/
def left (T H : Int) (p : Pu) : Nat :=
  if p.ph = 0 then 0 else if p.ph = 7 then 1 else if p.ph = 6 then (if T = p.fr then 2 else 5) else if p.ph = 5 then (if p.fr < H then 5 else if T = p.fr then 3 else 6) else 4

/-- A step of a push. -/
theorem inv_pstep (h : QInv n x) {k : Nat} {p : Pu} (hk : x.ps[k]? = some p) (h0 : p.ph ≠ 0) (hlt : x.rs.length < 1000000) :
    QInv n (x.after n k p) ∧ ((pustep x.s (lawQ n) p).1.lg.length = x.s.lg.length + 1) ∧ ((pustep x.s (lawQ n) p).2.ph = 0 → (pustep x.s (lawQ n) p).2.er = 14 → x.rs.length = x.pl.length + n) ∧
    (left (qT (pustep x.s (lawQ n) p).1 (lawQ n)) (qH (pustep x.s (lawQ n) p).1 (lawQ n)) (pustep x.s (lawQ n) p).2 + 1 ≤ left (qT x.s (lawQ n)) (qH x.s (lawQ n)) p) := by
  have hok := h.pu k p hk
  have hpt := h.pot k p hk
  have her := er_live hok h0
  have hT : qT x.s (lawQ n) = x.rs.length := h.hT
  have hH : qH x.s (lawQ n) = x.pl.length := h.hH
  have hle := h.le
  have hroom := h.room
  have s0 := hpt.s0
  have m0 := hpt.m0
  have sa := hpt.all
  rcases hok.ph with e | e | e | e | e
  · exact absurd e h0
  · have hs := pustep4 (s := x.s) (f := lawQ n) e
    have h4 := hpt.p4 e
    unfold Xq.after
    rw [hs]
    refine ⟨?_, load_lg _ _ _, fun e' => absurd (show (5 : Int) = 0 from e') (by decide), ?_⟩
    · rw [if_neg (by rw [e]; simp), if_neg (by rw [e]; simp)]
      refine inv_upd h hk _ (load_vs _ _ _) (by rw [e]; decide) (by show (5 : Int) ≠ 7; decide) ⟨hok.v, hok.t, by simp, .inl ⟨by show (5 : Int) ≠ 0; decide, her⟩, fun _ => ?_, fun e' => absurd (show (5 : Int) = 6 from e') (by decide), fun e' => absurd (show (5 : Int) = 7 from e') (by decide)⟩ ⟨by omega, m0, fun e' => absurd (show (5 : Int) = 4 from e') (by decide), fun _ => ?_, fun e' => absurd (show (5 : Int) = 6 from e') (by decide), fun e' => absurd (show (5 : Int) = 7 from e') (by decide), by omega⟩ ?_
      · show 0 ≤ qT x.s (lawQ n) ∧ qT x.s (lawQ n) ≤ _
        omega
      · show 1 ≤ lk x.st k + 1 ∧ lk x.st k + 1 + 3 * ((x.rs.length : Int) - qT x.s (lawQ n)) ≤ _
        omega
      · rw [has_live (by rw [e]; decide) h0]
        exact has_live (by show (5 : Int) ≠ 7; decide) (by show (5 : Int) ≠ 0; decide)
    · show left (lk (x.s.load _ _).vs _) (lk (x.s.load _ _).vs _) _ + 1 ≤ _
      rw [load_vs]
      have hT' : lk x.s.vs (lawQ n).tail = x.rs.length := h.hT
      have hH' : lk x.s.vs (lawQ n).head = x.pl.length := h.hH
      simp only [left, e, hT, hT', hH', hH]
      simp
      rw [if_neg (by omega)]
      decide
  · obtain ⟨f1, f2⟩ := hok.p5 (.inl e)
    have h5 := hpt.p5 e
    by_cases hc : p.fr < qH x.s (lawQ n)
    · have hs := pustep5a e hc
      unfold Xq.after
      rw [hs]
      refine ⟨?_, load_lg _ _ _, fun e' => absurd (show (4 : Int) = 0 from e') (by decide), ?_⟩
      · rw [if_neg (by rw [e]; simp), if_neg (by rw [e]; simp)]
        refine inv_upd h hk _ (load_vs _ _ _) (by rw [e]; decide) (by show (4 : Int) ≠ 7; decide) ⟨hok.v, hok.t, by simp, .inl ⟨by show (4 : Int) ≠ 0; decide, her⟩, fun e' => ?_, fun e' => absurd (show (4 : Int) = 6 from e') (by decide), fun e' => absurd (show (4 : Int) = 7 from e') (by decide)⟩ ⟨by omega, m0, fun _ => ?_, fun e' => absurd (show (4 : Int) = 5 from e') (by decide), fun e' => absurd (show (4 : Int) = 6 from e') (by decide), fun e' => absurd (show (4 : Int) = 7 from e') (by decide), by omega⟩ ?_
        · rcases e' with e' | e'
          · exact absurd (show (4 : Int) = 5 from e') (by decide)
          · exact absurd (show (4 : Int) = 6 from e') (by decide)
        · omega
        · rw [has_live (by rw [e]; decide) h0]
          exact has_live (by show (4 : Int) ≠ 7; decide) (by show (4 : Int) ≠ 0; decide)
      · simp only [left, e]
        simp
        rw [if_pos hc]
        decide
    · by_cases hd : ((lawQ n).n : Int) ≤ p.fr - qH x.s (lawQ n)
      · have hs := pustep5b e hc hd
        have hd' : (n : Int) ≤ p.fr - qH x.s (lawQ n) := hd
        unfold Xq.after
        rw [hs]
        refine ⟨?_, load_lg _ _ _, fun _ _ => by omega, ?_⟩
        · rw [if_neg (by rw [e]; simp), if_neg (by rw [e]; simp)]
          refine inv_upd h hk _ (load_vs _ _ _) (by rw [e]; decide) (by show (0 : Int) ≠ 7; decide) ⟨hok.v, hok.t, by simp, .inr ⟨rfl, .inr rfl⟩, fun e' => ?_, fun e' => absurd (show (0 : Int) = 6 from e') (by decide), fun e' => absurd (show (0 : Int) = 7 from e') (by decide)⟩ ⟨by omega, m0, fun e' => absurd (show (0 : Int) = 4 from e') (by decide), fun e' => absurd (show (0 : Int) = 5 from e') (by decide), fun e' => absurd (show (0 : Int) = 6 from e') (by decide), fun e' => absurd (show (0 : Int) = 7 from e') (by decide), by omega⟩ ?_
          · rcases e' with e' | e'
            · exact absurd (show (0 : Int) = 5 from e') (by decide)
            · exact absurd (show (0 : Int) = 6 from e') (by decide)
          · rw [has_live (by rw [e]; decide) h0]
            rfl
        · simp only [left, e]
          simp
          rw [if_neg hc]
          split <;> decide
      · have hs := pustep5c e hc hd
        have hd' : ¬ (n : Int) ≤ p.fr - qH x.s (lawQ n) := hd
        unfold Xq.after
        rw [hs]
        refine ⟨?_, load_lg _ _ _, fun e' => absurd (show (6 : Int) = 0 from e') (by decide), ?_⟩
        · rw [if_neg (by rw [e]; simp), if_neg (by rw [e]; simp)]
          refine inv_upd h hk _ (load_vs _ _ _) (by rw [e]; decide) (by show (6 : Int) ≠ 7; decide) ⟨hok.v, hok.t, by simp, .inl ⟨by show (6 : Int) ≠ 0; decide, her⟩, fun _ => ⟨f1, f2⟩, fun _ => ?_, fun e' => absurd (show (6 : Int) = 7 from e') (by decide)⟩ ⟨by omega, m0, fun e' => absurd (show (6 : Int) = 4 from e') (by decide), fun e' => absurd (show (6 : Int) = 5 from e') (by decide), fun _ => ?_, fun e' => absurd (show (6 : Int) = 7 from e') (by decide), by omega⟩ ?_
          · show 0 ≤ qH x.s (lawQ n) ∧ qH x.s (lawQ n) ≤ _ ∧ qH x.s (lawQ n) ≤ p.fr ∧ p.fr - qH x.s (lawQ n) < _
            omega
          · show 1 ≤ lk x.st k + 1 ∧ lk x.st k + 1 + 3 * ((x.rs.length : Int) - p.fr) ≤ _
            omega
          · rw [has_live (by rw [e]; decide) h0]
            exact has_live (by show (6 : Int) ≠ 7; decide) (by show (6 : Int) ≠ 0; decide)
        · show left (lk (x.s.load _ _).vs _) (lk (x.s.load _ _).vs _) _ + 1 ≤ _
          rw [load_vs]
          have hT' : lk x.s.vs (lawQ n).tail = x.rs.length := h.hT
          simp only [left, e, hT', hT]
          simp
          rw [if_neg hc]
          split <;> decide
  · obtain ⟨f1, f2⟩ := hok.p5 (.inr e)
    have h6 := hpt.p6 e
    by_cases hc : qT x.s (lawQ n) = p.fr
    · have hs := pustep6a e hc
      unfold Xq.after
      rw [hs]
      refine ⟨?_, cas_lg _ _ _ _ _, fun e' => absurd (show (7 : Int) = 0 from e') (by decide), ?_⟩
      · rw [if_pos ⟨e, rfl⟩, if_pos ⟨e, rfl⟩]
        exact inv_hit h hk e hc hlt
      · simp only [left, e]
        simp
        rw [if_pos hc]
        decide
    · have hs := pustep6b e hc
      have hvs : (x.s.cas p.t ((lawQ n).tail : Nat) p.fr (w64 (p.fr + 1))).vs = x.s.vs := by rw [cas_vs, Int.toNat_natCast]; exact if_neg hc
      unfold Xq.after
      rw [hs]
      refine ⟨?_, cas_lg _ _ _ _ _, fun e' => absurd (show (4 : Int) = 0 from e') (by decide), ?_⟩
      · rw [if_neg (by simp), if_neg (by simp)]
        refine inv_upd h hk _ hvs (by rw [e]; decide) (by show (4 : Int) ≠ 7; decide) ⟨hok.v, hok.t, by simp, .inl ⟨by show (4 : Int) ≠ 0; decide, her⟩, fun e' => ?_, fun e' => absurd (show (4 : Int) = 6 from e') (by decide), fun e' => absurd (show (4 : Int) = 7 from e') (by decide)⟩ ⟨by omega, m0, fun _ => ?_, fun e' => absurd (show (4 : Int) = 5 from e') (by decide), fun e' => absurd (show (4 : Int) = 6 from e') (by decide), fun e' => absurd (show (4 : Int) = 7 from e') (by decide), by omega⟩ ?_
        · rcases e' with e' | e'
          · exact absurd (show (4 : Int) = 5 from e') (by decide)
          · exact absurd (show (4 : Int) = 6 from e') (by decide)
        · omega
        · rw [has_live (by rw [e]; decide) h0]
          exact has_live (by show (4 : Int) ≠ 7; decide) (by show (4 : Int) ≠ 0; decide)
      · simp only [left, e]
        simp
        rw [if_neg hc]
        decide
  · have hs := pustep7 (s := x.s) (f := lawQ n) e
    unfold Xq.after
    rw [hs]
    refine ⟨?_, store_lg _ _ _ _, fun _ e' => ?_, ?_⟩
    · rw [if_neg (by rw [e]; simp), if_neg (by rw [e]; simp)]
      exact inv_enter h hk e
    · have e'' : p.er = 14 := e'
      rw [her] at e''
      exact absurd e'' (by decide)
    · simp only [left, e]
      simp
end
end Go.Proofs.Ytpkjjlahmjijnaa
