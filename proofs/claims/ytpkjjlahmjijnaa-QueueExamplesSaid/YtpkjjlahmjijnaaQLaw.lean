/- The queue: the plain law of a run. -/
import Derived.Test.YtpkjjlahmjijnaaQPsteps
namespace Go.Proofs.Ytpkjjlahmjijnaa
set_option linter.unusedVariables false
set_option linter.unusedSimpArgs false

/-- What a run shows. -/
structure Xq where
  s : BS
  ps : List Pu
  st : List Int
  ot : List Int
  rs : List Int
  pl : List Int
  pull : Option Pl

/-- A push is as it may be. -/
structure PuOk (H T n : Nat) (rs : List Int) (p : Pu) : Prop where
  v : 0 < p.v ∧ p.v < 18446744073709551616
  t : 0 ≤ p.t ∧ p.t < 16
  ph : p.ph = 0 ∨ p.ph = 4 ∨ p.ph = 5 ∨ p.ph = 6 ∨ p.ph = 7
  er : (p.ph ≠ 0 ∧ p.er = 0) ∨ (p.ph = 0 ∧ (p.er = 0 ∨ p.er = 14))
  p5 : p.ph = 5 ∨ p.ph = 6 → 0 ≤ p.fr ∧ p.fr ≤ T
  p6 : p.ph = 6 → 0 ≤ p.sn ∧ p.sn ≤ H ∧ p.sn ≤ p.fr ∧ p.fr - p.sn < n
  p7 : p.ph = 7 → (H : Int) ≤ p.fr ∧ p.fr < T ∧ lk rs p.fr.toNat = p.v

/-- How many steps a push may have made. -/
structure Pot (T : Nat) (p : Pu) (s m : Int) : Prop where
  s0 : 0 ≤ s
  m0 : 0 ≤ m
  p4 : p.ph = 4 → s ≤ 3 * m
  p5 : p.ph = 5 → 1 ≤ s ∧ s + 3 * (T - p.fr) ≤ 1 + 3 * m
  p6 : p.ph = 6 → 1 ≤ s ∧ s + 3 * (T - p.fr) ≤ 2 + 3 * m
  p7 : p.ph = 7 → s ≤ 3 + 3 * m
  all : s ≤ 4 + 3 * m

/-- Entry i was reserved and is not stored. -/
def Pend (ps : List Pu) (i : Int) : Prop := ∃ (k : Nat) (p : Pu), ps[k]? = some p ∧ p.ph = 7 ∧ p.fr = i

/-- The push has an entry. -/
def Pu.has (p : Pu) : Bool := p.ph == 7 || (p.ph == 0 && p.er == 0)

structure QInv (n : Nat) (x : Xq) : Prop where
  n1 : 1 ≤ n
  n2 : n ≤ 64
  len : x.s.vs.length = n + 2
  hT : lk x.s.vs 1 = x.rs.length
  hH : lk x.s.vs 0 = x.pl.length
  le : x.pl.length ≤ x.rs.length
  room : x.rs.length ≤ x.pl.length + n
  pre : x.pl = x.rs.take x.pl.length
  pos : ∀ i, i < x.rs.length → lk x.rs i ≠ 0
  ls : x.st.length = x.ps.length
  lo : x.ot.length = x.ps.length
  pu : ∀ (k : Nat) (p : Pu), x.ps[k]? = some p → PuOk x.pl.length x.rs.length n x.rs p
  inj : ∀ (j k : Nat) (p q : Pu), x.ps[j]? = some p → x.ps[k]? = some q → p.ph = 7 → q.ph = 7 → p.fr = q.fr → j = k
  pot : ∀ (k : Nat) (p : Pu), x.ps[k]? = some p → Pot x.rs.length p (lk x.st k) (lk x.ot k)
  ce0 : ∀ i : Nat, x.pl.length ≤ i → i < x.rs.length → Pend x.ps i → lk x.s.vs (2 + i % n) = 0
  ce1 : ∀ i : Nat, x.pl.length ≤ i → i < x.rs.length → ¬ Pend x.ps i → ¬ (i = x.pl.length ∧ ∃ q, x.pull = some q ∧ q.ph = 21) → lk x.s.vs (2 + i % n) = lk x.rs i
  ce2 : ∀ q, x.pull = some q → q.ph = 21 → lk x.s.vs (2 + x.pl.length % n) = 0
  fr : ∀ c, c < n → (∀ i, x.pl.length ≤ i → i < x.rs.length → i % n ≠ c) → lk x.s.vs (2 + c) = 0
  pull : ∀ q, x.pull = some q → q.at' = x.pl.length ∧ q.er = 0 ∧ q.fin = false ∧ (0 ≤ q.t ∧ q.t < 16) ∧ (q.ph = 19 ∨ ((q.ph = 20 ∨ q.ph = 21) ∧ x.pl.length < x.rs.length ∧ q.got = lk x.rs x.pl.length ∧ ¬ Pend x.ps x.pl.length))
  cnt : (x.ps.countP Pu.has) = x.rs.length

def lawQ (n : Nat) : Qd := ⟨0, 1, 2, n⟩

section
variable {n : Nat} {x : Xq}

theorem QInv.at_lt (h : QInv n x) {k : Nat} {p : Pu} (hk : x.ps[k]? = some p) : k < x.ps.length := (List.getElem?_eq_some_iff.1 hk).1

theorem set_get {l : List Pu} {k j : Nat} {p q : Pu} (h : (l.set k p)[j]? = some q) : (j = k ∧ q = p) ∨ (j ≠ k ∧ l[j]? = some q) := by
  rw [List.getElem?_set] at h
  split at h
  · rename_i e
    split at h
    · exact .inl ⟨e.symm, (Option.some.inj h).symm⟩
    · cases h
  · rename_i e
    exact .inr ⟨fun e' => e e'.symm, h⟩
theorem set_same {l : List Pu} {k : Nat} {p : Pu} (h : k < l.length) : (l.set k p)[k]? = some p := by simp [h]
theorem set_other {l : List Pu} {k j : Nat} {p : Pu} (h : j ≠ k) : (l.set k p)[j]? = l[j]? := by
  rw [List.getElem?_set, if_neg (Ne.symm h)]

theorem countP_set {l : List Pu} {k : Nat} {p q : Pu} (h : l[k]? = some p) : (l.set k q).countP Pu.has + (if p.has then 1 else 0) = l.countP Pu.has + (if q.has then 1 else 0) := by
  induction l generalizing k with
  | nil => simp at h
  | cons a l ih =>
    cases k with
    | zero =>
      simp at h
      subst h
      simp [List.countP_cons]
      omega
    | succ k =>
      simp at h
      have := ih h
      simp [List.countP_cons]
      omega

/-- A step of push k that reserves nothing and stores nothing. -/
theorem inv_upd (h : QInv n x) {k : Nat} {p p' : Pu} (hk : x.ps[k]? = some p) (s' : BS) (hv : s'.vs = x.s.vs) (h7 : p.ph ≠ 7) (h7' : p'.ph ≠ 7) (hp : PuOk x.pl.length x.rs.length n x.rs p')
    (ht : Pot x.rs.length p' (lk x.st k + 1) (lk x.ot k)) (hh : p'.has = p.has) : QInv n { x with s := s', ps := x.ps.set k p', st := x.st.set k (lk x.st k + 1) } := by
  have hlt := h.at_lt hk
  have hpend : ∀ i, Pend (x.ps.set k p') i ↔ Pend x.ps i := by
    intro i
    constructor
    · rintro ⟨j, q, hj, hq, he⟩
      rcases set_get hj with ⟨_, rfl⟩ | ⟨_, hj⟩
      · exact absurd hq h7'
      · exact ⟨j, q, hj, hq, he⟩
    · rintro ⟨j, q, hj, hq, he⟩
      refine ⟨j, q, ?_, hq, he⟩
      rw [set_other]
      · exact hj
      · rintro rfl
        rw [hk] at hj
        obtain rfl := Option.some.inj hj
        exact h7 hq
  refine ⟨h.n1, h.n2, by rw [hv]; exact h.len, by rw [hv]; exact h.hT, by rw [hv]; exact h.hH, h.le, h.room, h.pre, h.pos, by simp [h.ls], by simp [h.lo], ?_, ?_, ?_, ?_, ?_, ?_, ?_, ?_, ?_⟩
  · intro j q hj
    rcases set_get hj with ⟨_, rfl⟩ | ⟨_, hj⟩
    · exact hp
    · exact h.pu j q hj
  · intro j j' q q' hj hj' a b e
    rcases set_get hj with ⟨_, rfl⟩ | ⟨_, hj⟩
    · exact absurd a h7'
    rcases set_get hj' with ⟨_, rfl⟩ | ⟨_, hj'⟩
    · exact absurd b h7'
    exact h.inj j j' q q' hj hj' a b e
  · intro j q hj
    rcases set_get hj with ⟨rfl, rfl⟩ | ⟨hne, hj⟩
    · show Pot _ _ (lk (x.st.set j _) j) _
      rw [lk_set _ (by rw [h.ls]; exact hlt)]
      exact ht
    · show Pot _ _ (lk (x.st.set k _) j) _
      rw [lk_set_ne _ (Ne.symm hne)]
      exact h.pot j q hj
  · intro i a b c
    show lk s'.vs _ = 0
    rw [hv]; exact h.ce0 i a b ((hpend _).1 c)
  · intro i a b c d
    show lk s'.vs _ = _
    rw [hv]; exact h.ce1 i a b (fun e => c ((hpend _).2 e)) d
  · intro q a b
    show lk s'.vs _ = _
    rw [hv]; exact h.ce2 q a b
  · intro c a b
    show lk s'.vs _ = _
    rw [hv]; exact h.fr c a b
  · intro q a
    obtain ⟨b1, b2, b3, b4, b5⟩ := h.pull q a
    refine ⟨b1, b2, b3, b4, ?_⟩
    rcases b5 with b5 | ⟨c1, c2, c3, c4⟩
    · exact .inl b5
    · exact .inr ⟨c1, c2, c3, fun e => c4 ((hpend _).1 e)⟩
  · have := countP_set (q := p') hk
    rw [hh] at this
    have hc := h.cnt
    show (x.ps.set k p').countP Pu.has = x.rs.length
    omega

/-- Who was in progress when an entry was reserved. -/
def bumped (k : Nat) (ps : List Pu) (st ot : List Int) : List Int :=
  (List.range ot.length).map fun i => if i ≠ k ∧ 0 < lk st i ∧ (ps[i]?.map Pu.ph) ≠ some 0 then lk ot i + 1 else lk ot i
theorem bumped_length (k : Nat) (ps : List Pu) (st ot : List Int) : (bumped k ps st ot).length = ot.length := by simp [bumped]
theorem lk_bumped {k : Nat} {ps : List Pu} {st ot : List Int} {i : Nat} (h : i < ot.length) : lk (bumped k ps st ot) i = if i ≠ k ∧ 0 < lk st i ∧ (ps[i]?.map Pu.ph) ≠ some 0 then lk ot i + 1 else lk ot i := by
  simp [bumped, lk, List.getD_eq_getElem?_getD, h]

theorem mod_inj {n H i j : Nat} (hn : 0 < n) (a1 : H ≤ i) (a2 : i < H + n) (b1 : H ≤ j) (b2 : j < H + n) (e : i % n = j % n) : i = j := by
  have h1 := Nat.div_add_mod i n
  have h2 := Nat.div_add_mod j n
  rcases Nat.lt_trichotomy (i / n) (j / n) with h | h | h
  · have : n * (i / n + 1) ≤ n * (j / n) := Nat.mul_le_mul_left n h
    rw [Nat.mul_add] at this
    omega
  · rw [h] at h1; omega
  · have : n * (j / n + 1) ≤ n * (i / n) := Nat.mul_le_mul_left n h
    rw [Nat.mul_add] at this
    omega

/-- The step that reserves an entry. -/
theorem inv_hit (h : QInv n x) {k : Nat} {p : Pu} (hk : x.ps[k]? = some p) (h6 : p.ph = 6) (he : qT x.s (lawQ n) = p.fr) (hlt : x.rs.length < 1000000) :
    QInv n { x with s := x.s.cas p.t 1 p.fr (w64 (p.fr + 1)), ps := x.ps.set k { p with ph := 7 }, st := x.st.set k (lk x.st k + 1), rs := x.rs ++ [p.v], ot := bumped k (x.ps.set k { p with ph := 7 }) (x.st.set k (lk x.st k + 1)) x.ot } := by
  have hkl := h.at_lt hk
  have hok := h.pu k p hk
  have hfr : p.fr = x.rs.length := by rw [← he]; exact h.hT
  obtain ⟨g1, g2, g3, g4⟩ := hok.p6 h6
  have hvs : (x.s.cas p.t 1 p.fr (w64 (p.fr + 1))).vs = x.s.vs.set 1 (x.rs.length + 1) := by
    rw [cas_vs, if_pos (by rw [← he]; rfl), hfr]
    congr 1
    unfold w64; omega
  have hnp : ∀ i : Nat, i < x.rs.length → (Pend (x.ps.set k { p with ph := 7 }) i ↔ Pend x.ps i) := by
    intro i hi
    constructor
    · rintro ⟨j, q, hj, hq, e⟩
      rcases set_get hj with ⟨_, rfl⟩ | ⟨_, hj⟩
      · have : p.fr = i := e
        omega
      · exact ⟨j, q, hj, hq, e⟩
    · rintro ⟨j, q, hj, hq, e⟩
      refine ⟨j, q, ?_, hq, e⟩
      rw [set_other]
      · exact hj
      · rintro rfl
        rw [hk] at hj
        obtain rfl := Option.some.inj hj
        rw [h6] at hq; cases hq
  have hself : Pend (x.ps.set k { p with ph := 7 }) (x.rs.length : Nat) := ⟨k, _, set_same hkl, rfl, hfr⟩
  have hcell : ∀ c, lk (x.s.vs.set 1 ((x.rs.length : Int) + 1)) (2 + c) = lk x.s.vs (2 + c) := fun c => lk_set_ne _ (by omega)
  have hnpos : 0 < n := h.n1
  refine ⟨h.n1, h.n2, by show List.length (BS.vs _) = _; rw [hvs]; simp [h.len], ?_, ?_, ?_, ?_, ?_, ?_, by simp [h.ls], by rw [bumped_length]; simp [h.lo], ?_, ?_, ?_, ?_, ?_, ?_, ?_, ?_, ?_⟩
  · show lk (BS.vs _) 1 = _
    rw [hvs, lk_set _ (by rw [h.len]; omega)]; simp
  · show lk (BS.vs _) 0 = _
    rw [hvs, lk_set_ne _ (by decide)]; exact h.hH
  · show _ ≤ (x.rs ++ [p.v]).length
    have := h.le
    simp; omega
  · show (x.rs ++ [p.v]).length ≤ _
    simp; omega
  · show x.pl = (x.rs ++ [p.v]).take _
    rw [List.take_append_of_le_length h.le]; exact h.pre
  · intro i hi
    show lk (x.rs ++ [p.v]) i ≠ 0
    have hi' : i < x.rs.length + 1 := by simpa using hi
    by_cases e : i = x.rs.length
    · subst e; rw [lk_snoc]; have := hok.v.1; omega
    · rw [lk_app_l (by omega)]; exact h.pos i (by omega)
  · intro j q hj
    rcases set_get hj with ⟨_, rfl⟩ | ⟨_, hj⟩
    · refine ⟨hok.v, hok.t, by simp, .inl ⟨by show (7 : Int) ≠ 0; decide, ?_⟩, fun e => ?_, fun e => ?_, fun _ => ⟨?_, ?_, ?_⟩⟩
      · rcases hok.er with ⟨_, e⟩ | ⟨e, _⟩
        · exact e
        · rw [h6] at e; cases e
      · rcases e with e | e
        · exact absurd (show (7 : Int) = 5 from e) (by decide)
        · exact absurd (show (7 : Int) = 6 from e) (by decide)
      · exact absurd (show (7 : Int) = 6 from e) (by decide)
      · show (x.pl.length : Int) ≤ p.fr
        have := h.le; omega
      · show p.fr < ((x.rs ++ [p.v]).length : Nat)
        simp; omega
      · show lk (x.rs ++ [p.v]) p.fr.toNat = p.v
        rw [hfr]; simp [lk_snoc]
    · have ok := h.pu j q hj
      refine ⟨ok.v, ok.t, ok.ph, ok.er, fun e => ?_, ok.p6, fun e => ?_⟩
      · have := ok.p5 e
        simp; omega
      · obtain ⟨a, b, c⟩ := ok.p7 e
        refine ⟨a, by simp; omega, ?_⟩
        show lk (x.rs ++ [p.v]) q.fr.toNat = q.v
        rw [lk_app_l (by omega)]; exact c
  · intro j j' q q' hj hj' a b e
    rcases set_get hj with ⟨rfl, rfl⟩ | ⟨_, hj2⟩
    · rcases set_get hj' with ⟨rfl, rfl⟩ | ⟨_, hj3⟩
      · rfl
      · have := (h.pu j' q' hj3).p7 b
        have e' : p.fr = q'.fr := e
        omega
    · rcases set_get hj' with ⟨rfl, rfl⟩ | ⟨_, hj3⟩
      · have := (h.pu j q hj2).p7 a
        have e' : q.fr = p.fr := e
        omega
      · exact h.inj j j' q q' hj2 hj3 a b e
  · intro j q hj
    have hjl : j < x.ps.length := by
      have := (List.getElem?_eq_some_iff.1 hj).1
      simpa using this
    rw [show (x.rs ++ [p.v]).length = x.rs.length + 1 by simp]
    show Pot _ _ (lk (x.st.set k _) j) (lk (bumped _ _ _ _) j)
    rw [lk_bumped (by rw [h.lo]; exact hjl)]
    rcases set_get hj with ⟨rfl, rfl⟩ | ⟨hne, hj'⟩
    · rw [if_neg (by simp), lk_set _ (by rw [h.ls]; exact hjl)]
      have ok := h.pot j p hk
      have := ok.p6 h6
      refine ⟨by have := ok.s0; omega, ok.m0, fun e => absurd (show (7 : Int) = 4 from e) (by decide), fun e => absurd (show (7 : Int) = 5 from e) (by decide), fun e => absurd (show (7 : Int) = 6 from e) (by decide), fun _ => by omega, by omega⟩
    · have ok := h.pot j q hj'
      rw [lk_set_ne _ (Ne.symm hne), hj]
      have o1 := ok.s0
      have o2 := ok.m0
      have o3 := ok.all
      by_cases hc : 0 < lk x.st j ∧ q.ph ≠ 0
      · rw [if_pos ⟨hne, hc.1, by simp; exact hc.2⟩]
        refine ⟨o1, by omega, fun e => ?_, fun e => ?_, fun e => ?_, fun e => ?_, by omega⟩
        · have := ok.p4 e; omega
        · have := ok.p5 e; omega
        · have := ok.p6 e; omega
        · have := ok.p7 e; omega
      · rw [if_neg (fun e => hc ⟨e.2.1, by have := e.2.2; simpa using this⟩)]
        refine ⟨o1, o2, ok.p4, fun e => ?_, fun e => ?_, ok.p7, o3⟩
        · exact absurd ⟨by have := ok.p5 e; omega, by rw [e]; decide⟩ hc
        · exact absurd ⟨by have := ok.p6 e; omega, by rw [e]; decide⟩ hc
  · intro i a b c
    show lk (BS.vs _) _ = 0
    rw [hvs, hcell]
    have b' : i < x.rs.length + 1 := by simpa using b
    by_cases e : i = x.rs.length
    · refine h.fr _ (Nat.mod_lt _ hnpos) fun j d1 d2 e' => ?_
      have := mod_inj hnpos d1 (by omega) a (by omega) e'
      omega
    · exact h.ce0 i a (by omega) ((hnp i (by omega)).1 c)
  · intro i a b c d
    show lk (BS.vs _) _ = lk (x.rs ++ [p.v]) i
    rw [hvs, hcell]
    have b' : i < x.rs.length + 1 := by simpa using b
    by_cases e : i = x.rs.length
    · subst e; exact absurd hself c
    · rw [lk_app_l (by omega)]
      exact h.ce1 i a (by omega) (fun e' => c ((hnp i (by omega)).2 e')) d
  · intro q a b
    show lk (BS.vs _) _ = 0
    rw [hvs, hcell]
    exact h.ce2 q a b
  · intro c a b
    show lk (BS.vs _) _ = 0
    rw [hvs, hcell]
    refine h.fr c a fun i d1 d2 => b i d1 ?_
    show i < (x.rs ++ [p.v]).length
    simp; omega
  · intro q a
    obtain ⟨b1, b2, b3, b4, b5⟩ := h.pull q a
    refine ⟨b1, b2, b3, b4, ?_⟩
    rcases b5 with b5 | ⟨c1, c2, c3, c4⟩
    · exact .inl b5
    · refine .inr ⟨c1, by simp; omega, ?_, fun e => c4 ((hnp _ c2).1 e)⟩
      show q.got = lk (x.rs ++ [p.v]) _
      rw [lk_app_l c2]; exact c3
  · have := countP_set (q := { p with ph := 7 }) hk
    have hc := h.cnt
    have h1 : Pu.has p = false := by simp [Pu.has, h6]
    have h2 : Pu.has { p with ph := 7 } = true := by simp [Pu.has]
    rw [h1, h2] at this
    show (x.ps.set k _).countP Pu.has = (x.rs ++ [p.v]).length
    simp at this ⊢
    omega

theorem ent_law (i : Nat) : (lawQ n).ent (i : Int) = 2 + i % n := by
  unfold Qd.ent lawQ
  show 2 + ((i : Int) % (n : Int)).toNat = _
  rw [← Int.natCast_emod, Int.toNat_natCast]

/-- The step that stores the entry. -/
theorem inv_enter (h : QInv n x) {k : Nat} {p : Pu} (hk : x.ps[k]? = some p) (h7 : p.ph = 7) :
    QInv n { x with s := x.s.store p.t ((lawQ n).ent p.fr : Nat) p.v, ps := x.ps.set k { p with ph := 0 }, st := x.st.set k (lk x.st k + 1) } := by
  have hkl := h.at_lt hk
  have hok := h.pu k p hk
  obtain ⟨g1, g2, g3⟩ := hok.p7 h7
  have hnpos : 0 < n := h.n1
  have her : p.er = 0 := by
    rcases hok.er with ⟨_, e⟩ | ⟨e, _⟩
    · exact e
    · rw [h7] at e; cases e
  obtain ⟨i0, hi0⟩ := Int.eq_ofNat_of_zero_le (show 0 ≤ p.fr by omega)
  have hvs : (x.s.store p.t ((lawQ n).ent p.fr : Nat) p.v).vs = x.s.vs.set (2 + i0 % n) p.v := by
    rw [store_vs, Int.toNat_natCast, hi0, ent_law]
  have hm := Nat.mod_lt i0 hnpos
  have hcell : ∀ i : Nat, x.pl.length ≤ i → i < x.rs.length → i ≠ i0 → lk (x.s.vs.set (2 + i0 % n) p.v) (2 + i % n) = lk x.s.vs (2 + i % n) := by
    intro i a b c
    refine lk_set_ne _ fun e => c ?_
    have := h.room
    exact mod_inj (H := x.pl.length) hnpos a (by omega) (by omega) (by omega) (by omega)
  have hpend : ∀ i : Int, i ≠ p.fr → (Pend (x.ps.set k { p with ph := 0 }) i ↔ Pend x.ps i) := by
    intro i hi
    constructor
    · rintro ⟨j, q, hj, hq, e⟩
      rcases set_get hj with ⟨_, rfl⟩ | ⟨_, hj⟩
      · exact absurd (show (0 : Int) = 7 from hq) (by decide)
      · exact ⟨j, q, hj, hq, e⟩
    · rintro ⟨j, q, hj, hq, e⟩
      refine ⟨j, q, ?_, hq, e⟩
      rw [set_other]
      · exact hj
      · rintro rfl
        rw [hk] at hj
        obtain rfl := Option.some.inj hj
        exact hi e.symm
  have hnot : ¬ Pend (x.ps.set k { p with ph := 0 }) p.fr := by
    rintro ⟨j, q, hj, hq, e⟩
    rcases set_get hj with ⟨_, rfl⟩ | ⟨hne, hj⟩
    · exact absurd (show (0 : Int) = 7 from hq) (by decide)
    · exact hne (h.inj j k q p hj hk hq h7 e)
  have hmine : Pend x.ps p.fr := ⟨k, p, hk, h7, rfl⟩
  refine ⟨h.n1, h.n2, by show List.length (BS.vs _) = _; rw [hvs]; simp [h.len], ?_, ?_, h.le, h.room, h.pre, h.pos, by simp [h.ls], by simp [h.lo], ?_, ?_, ?_, ?_, ?_, ?_, ?_, ?_, ?_⟩
  · show lk (BS.vs _) 1 = _
    rw [hvs, lk_set_ne _ (by omega)]; exact h.hT
  · show lk (BS.vs _) 0 = _
    rw [hvs, lk_set_ne _ (by omega)]; exact h.hH
  · intro j q hj
    rcases set_get hj with ⟨_, rfl⟩ | ⟨_, hj⟩
    · refine ⟨hok.v, hok.t, by simp, .inr ⟨rfl, .inl her⟩, fun e => ?_, fun e => ?_, fun e => ?_⟩
      · rcases e with e | e
        · exact absurd (show (0 : Int) = 5 from e) (by decide)
        · exact absurd (show (0 : Int) = 6 from e) (by decide)
      · exact absurd (show (0 : Int) = 6 from e) (by decide)
      · exact absurd (show (0 : Int) = 7 from e) (by decide)
    · exact h.pu j q hj
  · intro j j' q q' hj hj' a b e
    rcases set_get hj with ⟨_, rfl⟩ | ⟨_, hj⟩
    · exact absurd (show (0 : Int) = 7 from a) (by decide)
    rcases set_get hj' with ⟨_, rfl⟩ | ⟨_, hj'⟩
    · exact absurd (show (0 : Int) = 7 from b) (by decide)
    exact h.inj j j' q q' hj hj' a b e
  · intro j q hj
    show Pot x.rs.length _ (lk (x.st.set k _) j) (lk x.ot j)
    rcases set_get hj with ⟨rfl, rfl⟩ | ⟨hne, hj⟩
    · rw [lk_set _ (by rw [h.ls]; exact hkl)]
      have ok := h.pot j p hk
      have := ok.p7 h7
      refine ⟨by have := ok.s0; omega, ok.m0, fun e => absurd (show (0 : Int) = 4 from e) (by decide), fun e => absurd (show (0 : Int) = 5 from e) (by decide), fun e => absurd (show (0 : Int) = 6 from e) (by decide), fun e => absurd (show (0 : Int) = 7 from e) (by decide), by omega⟩
    · rw [lk_set_ne _ (Ne.symm hne)]
      exact h.pot j q hj
  · intro i a b c
    show lk (BS.vs _) _ = 0
    have hi : i ≠ i0 := by
      intro e
      have e' : ((i : Nat) : Int) = p.fr := by rw [hi0, e]
      rw [e'] at c
      exact hnot c
    rw [hvs, hcell i a b hi]
    exact h.ce0 i a b ((hpend i (by omega)).1 c)
  · intro i a b c d
    show lk (BS.vs _) _ = _
    rw [hvs]
    by_cases hi : i = i0
    · subst hi
      rw [lk_set _ (by rw [h.len]; omega), ← g3, hi0, Int.toNat_natCast]
    · rw [hcell i a b hi]
      exact h.ce1 i a b (fun e => c ((hpend i (by omega)).2 e)) d
  · intro q a b
    show lk (BS.vs _) _ = 0
    obtain ⟨_, _, _, _, b5⟩ := h.pull q a
    rcases b5 with b5 | ⟨c1, c2, c3, c4⟩
    · rw [b] at b5; cases b5
    · have hi : x.pl.length ≠ i0 := by
        intro e
        rw [hi0, ← e] at hmine
        exact c4 hmine
      rw [hvs, hcell _ (Nat.le_refl _) c2 hi]
      exact h.ce2 q a b
  · intro c a b
    show lk (BS.vs _) _ = 0
    have := b i0 (show x.pl.length ≤ i0 by omega) (show i0 < x.rs.length by omega)
    rw [hvs, lk_set_ne _ (by omega)]
    exact h.fr c a b
  · intro q a
    obtain ⟨b1, b2, b3, b4, b5⟩ := h.pull q a
    refine ⟨b1, b2, b3, b4, ?_⟩
    rcases b5 with b5 | ⟨c1, c2, c3, c4⟩
    · exact .inl b5
    · refine .inr ⟨c1, c2, c3, fun e => ?_⟩
      by_cases hi : (x.pl.length : Int) = p.fr
      · exact c4 (by rw [hi]; exact hmine)
      · exact c4 ((hpend _ hi).1 e)
  · have := countP_set (q := { p with ph := 0 }) hk
    have hc := h.cnt
    have h1 : Pu.has p = true := by simp [Pu.has, h7]
    have h2 : Pu.has { p with ph := 0 } = true := by simp [Pu.has, her]
    rw [h1, h2] at this
    show (x.ps.set k _).countP Pu.has = x.rs.length
    omega
end
end Go.Proofs.Ytpkjjlahmjijnaa
