/- The feed: a run of a producer and a consumer, and its invariant (plain). -/
import Derived.Test.YtonjbofdmmnpdaaFeedPlain
namespace Go.Proofs.Ytonjbofdmmnpdaa
set_option linter.unusedVariables false
set_option linter.unusedSimpArgs false

/-- The last number of a list, or 0. -/
def lastI (l : List Int) : Int := if l.length = 0 then 0 else lk l (l.length - 1)
theorem lastI_snoc (l : List Int) (x : Int) : lastI (l ++ [x]) = x := by
  unfold lastI
  rw [if_neg (by simp)]
  rw [show (l ++ [x]).length - 1 = l.length by simp, lk_snoc]
theorem lastI_pos {l : List Int} (h : 0 < l.length) : lastI l = lk l (l.length - 1) := by unfold lastI; rw [if_neg (by omega)]
theorem lastI_zero {l : List Int} (h : l.length = 0) : lastI l = 0 := by unfold lastI; rw [if_pos h]

/-- The last place of a number among the first k of a list, or -1. -/
def placeOf (l : List Int) (v : Int) : Nat → Int
  | 0 => -1
  | k + 1 => if lk l k = v then k else placeOf l v k
theorem placeOf_eq {l : List Int} {v : Int} {i : Nat} (hi : lk l i = v) (hne : ∀ j, j ≠ i → j < l.length → lk l j ≠ v) : ∀ k, i < k → k ≤ l.length → placeOf l v k = i := by
  intro k
  induction k with
  | zero => intro h; omega
  | succ k ih =>
    intro h hl
    unfold placeOf
    by_cases hk : k = i
    · subst hk; rw [if_pos hi]
    · rw [if_neg (hne k hk (by omega)), ih (by omega) (by omega)]

/-- What a run holds; the marks that must hold are not kept here: they are true throughout. -/
structure Xs where
  s : BS
  f : Fd
  P : Option Pd
  R : Option Rd
  pushed : List Int
  items : List Int
  ended : Nat
  got : List Int
  lags : List Bool
  steps : Nat
  takes : Nat
  full : Bool
  looked : Nat
  clean : Bool

def flen (s : BS) (f : Fd) : Nat := (cTail s f - cHead s f).toNat
/-- How many of the marks are not lag markers. -/
def nolag : List Bool → Nat
  | [] => 0
  | b :: l => (if b then 0 else 1) + nolag l
theorem nolag_snoc (l : List Bool) (b : Bool) : nolag (l ++ [b]) = nolag l + if b then 0 else 1 := by
  induction l with
  | nil => simp [nolag]
  | cons x l ih => simp only [List.cons_append, nolag, ih]; omega

/-- A push is begun. -/
def Xs.begP (x : Xs) (k : Int) : Xs :=
  { x with f := { x.f with last := 1 + k + lastI x.pushed, pushing := true }, P := some ⟨1, 26, 1 + k + lastI x.pushed, 0⟩, steps := 0, pushed := x.pushed ++ [1 + k + lastI x.pushed] }
/-- A step of the push. -/
def Xs.stP (x : Xs) (q : Pd) : Xs :=
  { x with s := (pstep x.s x.f q).1, f := x.f.psh ((pstep x.s x.f q).2.1 != 0), steps := x.steps + 1, P := if (pstep x.s x.f q).2.1 = 0 then none else some (q.next (pstep x.s x.f q)),
           full := x.full || (decide (q.ph = 29) && decide (x.f.n ≤ flen (pstep x.s x.f q).1 x.f)), items := if q.ph = 31 then x.items ++ [lastI x.pushed] else x.items,
           ended := if (pstep x.s x.f q).2.1 = 0 then x.ended + 1 else x.ended }
/-- A reception is begun. -/
def Xs.begR (x : Xs) : Xs :=
  { x with f := { x.f with receiving := true }, R := some ⟨0, 14, lastI x.got, 0, 0, false, 0⟩, takes := 0 }
/-- A number is got. -/
def Xs.gotV (x : Xs) (v : Int) (lagged : Bool) : Xs := { x with got := x.got ++ [v], lags := x.lags ++ [lagged], full := if lagged then false else x.full }
/-- A step of the reception, before its end is looked at. -/
def Xs.stR (x : Xs) (r : Rd) : Xs :=
  { x with s := (rstep x.s x.f r).1, f := x.f.rcv ((rstep x.s x.f r).2.ph != 0), R := if (rstep x.s x.f r).2.ph = 0 then none else some (rstep x.s x.f r).2, takes := x.takes + 1,
           looked := if r.ph = 14 then x.ended else x.looked, clean := if r.ph = 14 then decide (flen (rstep x.s x.f r).1 x.f = 0) && decide (cLag (rstep x.s x.f r).1 x.f = 0) else x.clean }
/-- The end of a reception. -/
def Xs.endR (x : Xs) (r : Rd) : Xs := if r.err = 0 then x.gotV r.value r.lagged else x
def Xs.conR (x : Xs) (r : Rd) : Xs := if (rstep x.s x.f r).2.ph = 0 then (x.stR r).endR (rstep x.s x.f r).2 else x.stR r

/-- What a push in progress knows. -/
structure PInv (x : Xs) (H T : Nat) (q : Pd) : Prop where
  t : q.t = 1
  p : q.p = lastI x.pushed
  ph : q.ph = 26 ∨ q.ph = 27 ∨ q.ph = 28 ∨ q.ph = 29 ∨ q.ph = 30 ∨ q.ph = 31 ∨ q.ph = 32
  lag0 : 29 ≤ q.ph → cLag x.s x.f = 0
  sw : q.ph = 28 → q.l ≠ 0 ∧ (cLag x.s x.f = q.l ∨ cLag x.s x.f = 0)
  room : q.ph = 30 ∨ q.ph = 31 → T < H + x.f.n
  item : q.ph = 31 → lk x.s.vs (x.f.ent T) = q.p
  mark : q.ph = 32 → x.full = true
  st : x.steps ≤ 5 ∧ (q.ph = 26 → x.steps = 0) ∧ (q.ph = 27 → x.steps ≤ 1) ∧ (q.ph = 28 → x.steps ≤ 2) ∧ (q.ph = 29 → x.steps ≤ 3) ∧ (q.ph = 30 → x.steps ≤ 4) ∧ (q.ph = 32 → x.steps ≤ 4)

/-- What a reception in progress knows. -/
structure RInv (x : Xs) (H T a : Nat) (r : Rd) : Prop where
  t : r.t = 0
  after : r.after = lastI x.got
  fresh : r.lagged = false ∧ r.err = 0 ∧ (r.ph ≠ 17 → r.value = 0)
  ph : r.ph = 14 ∨ r.ph = 15 ∨ r.ph = 16 ∨ r.ph = 17 ∨ r.ph = 18
  look1 : r.ph = 15 → r.l ≠ 0 → cLag x.s x.f ≠ 0
  look0 : r.ph = 15 → r.l = 0 → x.looked ≤ a + (T - H) ∧ (T = H → x.clean = true)
  have16 : r.ph = 16 → H < T
  have17 : r.ph = 17 → H < T ∧ r.value = lk x.items H
  lag : r.ph = 18 → cLag x.s x.f ≠ 0 ∧ H = T
  tk : x.takes ≤ 3 ∧ (r.ph = 14 → x.takes = 0) ∧ (r.ph = 15 → x.takes = 1) ∧ (r.ph = 16 → x.takes = 2) ∧ (r.ph = 18 → x.takes = 2)

structure Inv (x : Xs) (m H T a : Nat) : Prop where
  n1 : 1 ≤ x.f.n ∧ x.f.n ≤ 6
  f0 : x.f.first = 0
  vl : x.s.vs.length = x.f.n + 4
  lg : x.s.lg.length ≤ m
  act : cAct x.s x.f = 1
  hH : cHead x.s x.f = H
  hT : cTail x.s x.f = T
  HT : H ≤ T ∧ T ≤ H + x.f.n ∧ T ≤ m
  ring : ∀ j : Nat, H ≤ j → j < T → lk x.s.vs (x.f.ent j) = lk x.items j
  il : x.items.length = T
  inc : ∀ i j, i < j → j < x.pushed.length → lk x.pushed i < lk x.pushed j
  pos : ∀ i : Nat, i < x.pushed.length → 0 < lk x.pushed i ∧ lk x.pushed i ≤ 3 * ((i : Int) + 1)
  pl : x.pushed.length = x.ended + (if x.P.isSome then 1 else 0)
  pm : x.pushed.length ≤ m
  itp : ∀ j, H ≤ j → j < T → lk x.items j = lk x.pushed (a + (j - H))
  lag : (cLag x.s x.f = 0 ∧ x.ended = a + (T - H)) ∨ (cLag x.s x.f = lk x.pushed (x.ended - 1) ∧ a + (T - H) < x.ended ∧ x.full = true ∧ ∀ q, x.P = some q → q.ph ≤ 28)
  lst : (a = 0 ∧ x.got.length = 0) ∨ (0 < a ∧ 0 < x.got.length ∧ lastI x.got = lk x.pushed (a - 1))
  gl : x.got.length = x.lags.length ∧ x.got.length ≤ m
  cnt : nolag x.lags = H
  flast : x.f.last = lastI x.pushed
  fpr : x.f.pushing = x.P.isSome ∧ x.f.receiving = x.R.isSome
  prod : ∀ q, x.P = some q → PInv x H T q
  cons : ∀ r, x.R = some r → RInv x H T a r

theorem ent_nat {f : Fd} (h0 : f.first = 0) (j : Nat) : f.ent (j : Int) = 4 + j % f.n := by
  unfold Fd.ent
  rw [h0, show ((j : Int) % (f.n : Int)) = ((j % f.n : Nat) : Int) from rfl, Int.toNat_natCast]
theorem mod_ne {i j n : Nat} (h1 : i < j) (h2 : j < i + n) : i % n ≠ j % n := by
  intro e
  have h3 : (j - i) % n = 0 := by
    have := Nat.sub_mod_eq_zero_of_mod_eq e.symm
    exact this
  rw [Nat.mod_eq_of_lt (by omega)] at h3
  omega

section
variable {x : Xs} {m H T a : Nat}

theorem Inv.alen (h : Inv x m H T a) : a + (T - H) ≤ x.ended := by
  rcases h.lag with ⟨_, e⟩ | ⟨_, e, _⟩ <;> omega
theorem Inv.lastP (h : Inv x m H T a) : 0 ≤ lastI x.pushed ∧ lastI x.pushed ≤ 3 * m := by
  by_cases h0 : x.pushed.length = 0
  · rw [lastI_zero h0]; omega
  · rw [lastI_pos (by omega)]
    have := h.pos (x.pushed.length - 1) (by omega)
    have := h.pm
    omega

/-- A push begins. -/
theorem inv_begP (h : Inv x m H T a) (hP : x.P = none) {k : Int} (hk : 0 ≤ k ∧ k ≤ 2) : Inv (x.begP k) (m + 1) H T a := by
  have hl := h.pl
  rw [hP] at hl
  simp at hl
  have hlast := h.lastP
  have ha := h.alen
  have g1 := h.HT
  have g2 := h.lg
  have g3 := h.pm
  have hgt : ∀ i, i < x.pushed.length → lk x.pushed i ≤ lastI x.pushed := by
    intro i hi
    rw [lastI_pos (by omega)]
    rcases Nat.lt_or_ge i (x.pushed.length - 1) with h1 | h1
    · exact Int.le_of_lt (h.inc i _ h1 (by omega))
    · rw [show i = x.pushed.length - 1 by omega]; exact Int.le_refl _
  have hll : lastI x.pushed ≤ 3 * x.pushed.length := by
    by_cases h0 : x.pushed.length = 0
    · rw [lastI_zero h0]; omega
    · rw [lastI_pos (by omega)]
      have := h.pos (x.pushed.length - 1) (by omega)
      omega
  refine { n1 := h.n1, f0 := h.f0, vl := h.vl, lg := by show x.s.lg.length ≤ m + 1; omega, act := h.act, hH := h.hH, hT := h.hT, HT := by show H ≤ T ∧ T ≤ H + x.f.n ∧ T ≤ m + 1; omega, ring := h.ring, il := h.il, inc := ?_, pos := ?_, pl := ?_, pm := ?_, itp := ?_, lag := ?_, lst := ?_, gl := ⟨h.gl.1, by have := h.gl.2; show x.got.length ≤ m + 1; omega⟩, cnt := h.cnt, flast := ?_, fpr := ⟨rfl, h.fpr.2⟩, prod := ?_, cons := ?_ }
  · intro i j hij hj
    have hj' : j < x.pushed.length + 1 := by simpa [Xs.begP] using hj
    show lk (x.pushed ++ [_]) i < lk (x.pushed ++ [_]) j
    rcases Nat.lt_or_ge j x.pushed.length with h1 | h1
    · rw [lk_app_l (by omega), lk_app_l h1]; exact h.inc i j hij h1
    · obtain rfl : j = x.pushed.length := by omega
      rw [lk_app_l (by omega), lk_snoc]
      have := hgt i hij
      omega
  · intro i hi
    have hi' : i < x.pushed.length + 1 := by simpa [Xs.begP] using hi
    show 0 < lk (x.pushed ++ [_]) i ∧ lk (x.pushed ++ [_]) i ≤ _
    rcases Nat.lt_or_ge i x.pushed.length with h1 | h1
    · rw [lk_app_l h1]; exact h.pos i h1
    · obtain rfl : i = x.pushed.length := by omega
      rw [lk_snoc]
      omega
  · simp [Xs.begP]; omega
  · simp [Xs.begP]; omega
  · intro j h1 h2
    show lk x.items j = lk (x.pushed ++ [_]) _
    rw [lk_app_l (by omega)]
    exact h.itp j h1 h2
  · rcases h.lag with ⟨e1, e2⟩ | ⟨e1, e2, e3, e4⟩
    · exact .inl ⟨e1, e2⟩
    · refine .inr ⟨?_, e2, e3, ?_⟩
      · show cLag x.s x.f = lk (x.pushed ++ [_]) (x.ended - 1)
        rw [lk_app_l (by omega)]; exact e1
      · intro q hq
        simp [Xs.begP] at hq
        subst hq
        simp
  · rcases h.lst with ⟨e1, e2⟩ | ⟨e1, e2, e3⟩
    · exact .inl ⟨e1, e2⟩
    · refine .inr ⟨e1, e2, ?_⟩
      show lastI x.got = lk (x.pushed ++ [_]) (a - 1)
      rw [lk_app_l (by omega)]; exact e3
  · show 1 + k + lastI x.pushed = lastI (x.pushed ++ [_])
    rw [lastI_snoc]
  · intro q hq
    simp [Xs.begP] at hq
    subst hq
    exact { t := rfl, p := (lastI_snoc _ _).symm, ph := .inl rfl, lag0 := fun e => absurd e (by simp), sw := fun e => absurd e (by simp), room := fun e => absurd e (by simp), item := fun e => absurd e (by simp), mark := fun e => absurd e (by simp), st := by simp [Xs.begP] }
  · intro r hr
    have := h.cons r hr
    exact { t := this.t, after := this.after, fresh := this.fresh, ph := this.ph, look1 := this.look1, look0 := this.look0, have16 := this.have16, have17 := this.have17, lag := this.lag, tk := this.tk }

/-- A reception begins. -/
theorem inv_begR (h : Inv x m H T a) (hR : x.R = none) : Inv x.begR m H T a := by
  refine { n1 := h.n1, f0 := h.f0, vl := h.vl, lg := h.lg, act := h.act, hH := h.hH, hT := h.hT, HT := h.HT, ring := h.ring, il := h.il, inc := h.inc, pos := h.pos, pl := h.pl, pm := h.pm, itp := h.itp, lag := h.lag, lst := h.lst, gl := h.gl, cnt := h.cnt, flast := h.flast, fpr := ⟨h.fpr.1, rfl⟩, prod := ?_, cons := ?_ }
  · intro q hq
    have := h.prod q hq
    exact { t := this.t, p := this.p, ph := this.ph, lag0 := this.lag0, sw := this.sw, room := this.room, item := this.item, mark := this.mark, st := this.st }
  · intro r hr
    simp [Xs.begR] at hr
    subst hr
    exact { t := rfl, after := rfl, fresh := ⟨rfl, rfl, fun _ => rfl⟩, ph := .inl rfl, look1 := fun e => absurd e (by simp), look0 := fun e => absurd e (by simp), have16 := fun e => absurd e (by simp), have17 := fun e => absurd e (by simp), lag := fun e => absurd e (by simp), tk := by simp [Xs.begR] }

theorem Inv.plen (h : Inv x m H T a) {q : Pd} (hP : x.P = some q) : x.pushed.length = x.ended + 1 := by
  have := h.pl
  rw [hP] at this
  simpa using this
theorem Inv.lastp (h : Inv x m H T a) {q : Pd} (hP : x.P = some q) : lastI x.pushed = lk x.pushed x.ended ∧ 0 < lastI x.pushed := by
  have hl := h.plen hP
  rw [lastI_pos (by omega), show x.pushed.length - 1 = x.ended by omega]
  exact ⟨rfl, (h.pos _ (by omega)).1⟩

theorem rinv_move {y : Xs} {T' : Nat} {r : Rd} (h : RInv x H T a r) (hg : y.got = x.got) (hi : ∀ j, j < T → lk y.items j = lk x.items j) (hlk : y.looked = x.looked) (hcl : y.clean = x.clean) (htk : y.takes = x.takes) (hT : T ≤ T') (hc : cLag y.s y.f = cLag x.s x.f ∨ cLag y.s y.f ≠ 0) (hT2 : T' = T ∨ cLag x.s x.f = 0) (hHT : H ≤ T) : RInv y H T' a r := by
  refine { t := h.t, after := by rw [hg]; exact h.after, fresh := h.fresh, ph := h.ph, look1 := ?_, look0 := ?_, have16 := fun e => Nat.lt_of_lt_of_le (h.have16 e) hT, have17 := ?_, lag := ?_, tk := by rw [htk]; exact h.tk }
  · intro e1 e2
    have := h.look1 e1 e2
    rcases hc with e | e
    · rw [e]; exact this
    · exact e
  · intro e1 e2
    have := h.look0 e1 e2
    refine ⟨by rw [hlk]; omega, fun e => ?_⟩
    rw [hcl]
    exact this.2 (by omega)
  · intro e
    have := h.have17 e
    exact ⟨by omega, by rw [hi H this.1]; exact this.2⟩
  · intro e
    have h1 := h.lag e
    refine ⟨?_, ?_⟩
    · rcases hc with e | e
      · rw [e]; exact h1.1
      · exact e
    · rcases hT2 with e2 | e2
      · omega
      · exact absurd e2 h1.1

/-- A step of the push that changes no cell and does not end it. -/
theorem inv_keep (h : Inv x m H T a) {q : Pd} (hP : x.P = some q) (hs : (pstep x.s x.f q).1.vs = x.s.vs) (hlg : (pstep x.s x.f q).1.lg.length = x.s.lg.length + 1) (hnx : (pstep x.s x.f q).2.1 ≠ 0) (h31 : q.ph ≠ 31)
    (hP' : PInv (x.stP q) H T (q.next (pstep x.s x.f q))) (hG : cLag x.s x.f ≠ 0 → (pstep x.s x.f q).2.1 ≤ 28) : Inv (x.stP q) (m + 1) H T a := by
  have hl := h.plen hP
  have g1 := h.HT
  have g2 := h.lg
  have e1 : cAct (x.stP q).s (x.stP q).f = cAct x.s x.f := by show lk (pstep x.s x.f q).1.vs x.f.first = _; rw [hs]; rfl
  have e2 : cLag (x.stP q).s (x.stP q).f = cLag x.s x.f := by show lk (pstep x.s x.f q).1.vs (x.f.first + 1) = _; rw [hs]; rfl
  have e3 : cHead (x.stP q).s (x.stP q).f = cHead x.s x.f := by show lk (pstep x.s x.f q).1.vs (x.f.first + 2) = _; rw [hs]; rfl
  have e4 : cTail (x.stP q).s (x.stP q).f = cTail x.s x.f := by show lk (pstep x.s x.f q).1.vs (x.f.first + 3) = _; rw [hs]; rfl
  have ei : (x.stP q).items = x.items := by simp [Xs.stP, h31]
  have ee : (x.stP q).ended = x.ended := by simp [Xs.stP, hnx]
  have eP : (x.stP q).P = some (q.next (pstep x.s x.f q)) := by simp [Xs.stP, hnx]
  refine { n1 := h.n1, f0 := h.f0, vl := by show (pstep x.s x.f q).1.vs.length = _; rw [hs]; exact h.vl, lg := by show (pstep x.s x.f q).1.lg.length ≤ _; rw [hlg]; omega, act := by rw [e1]; exact h.act, hH := by rw [e3]; exact h.hH, hT := by rw [e4]; exact h.hT,
           HT := ⟨g1.1, g1.2.1, by omega⟩, ring := ?_, il := by rw [ei]; exact h.il, inc := h.inc, pos := h.pos, pl := by rw [ee, eP]; show x.pushed.length = _; simp [hl], pm := Nat.le_succ_of_le h.pm, itp := by rw [ei]; exact h.itp, lag := ?_, lst := h.lst, gl := ⟨h.gl.1, Nat.le_succ_of_le h.gl.2⟩, cnt := h.cnt, flast := h.flast,
           fpr := ⟨by rw [eP]; show (_ != _) = _; simp [hnx], h.fpr.2⟩, prod := ?_, cons := ?_ }
  · intro j h1 h2
    rw [ei]
    show lk (pstep x.s x.f q).1.vs (x.f.ent j) = _
    rw [hs]
    exact h.ring j h1 h2
  · rw [e2, ee]
    rcases h.lag with ⟨c1, c2⟩ | ⟨c1, c2, c3, c4⟩
    · exact .inl ⟨c1, c2⟩
    · refine .inr ⟨c1, c2, by simp [Xs.stP, c3], ?_⟩
      intro q' hq'
      rw [eP] at hq'
      obtain rfl := Option.some.inj hq'
      refine hG ?_
      have := h.pos (x.ended - 1) (by omega)
      rw [c1]; omega
  · intro q' hq'
    rw [eP] at hq'
    obtain rfl := Option.some.inj hq'
    exact hP'
  · intro r hr
    exact rinv_move (h.cons r hr) rfl (fun j _ => by rw [ei]) rfl rfl rfl (Nat.le_refl _) (.inl e2) (.inl rfl) g1.1

/-- A step of the push that ends it. -/
theorem inv_endP (h : Inv x m H T a) {q : Pd} (hP : x.P = some q) (hnx : (pstep x.s x.f q).2.1 = 0) {T' : Nat} (hvl : (pstep x.s x.f q).1.vs.length = x.s.vs.length) (hlg : (pstep x.s x.f q).1.lg.length = x.s.lg.length + 1)
    (hact : lk (pstep x.s x.f q).1.vs x.f.first = cAct x.s x.f) (hhead : lk (pstep x.s x.f q).1.vs (x.f.first + 2) = cHead x.s x.f) (htail : lk (pstep x.s x.f q).1.vs (x.f.first + 3) = T')
    (hring : ∀ j : Nat, H ≤ j → j < T' → lk (pstep x.s x.f q).1.vs (x.f.ent j) = lk (x.stP q).items j) (hil : (x.stP q).items.length = T') (hitp : ∀ j, H ≤ j → j < T' → lk (x.stP q).items j = lk x.pushed (a + (j - H)))
    (hpre : ∀ j, j < T → lk (x.stP q).items j = lk x.items j)
    (hlag : (lk (pstep x.s x.f q).1.vs (x.f.first + 1) = 0 ∧ x.ended + 1 = a + (T' - H)) ∨ (lk (pstep x.s x.f q).1.vs (x.f.first + 1) = lk x.pushed x.ended ∧ a + (T' - H) < x.ended + 1 ∧ (x.stP q).full = true))
    (hT : T ≤ T' ∧ T' ≤ H + x.f.n ∧ T' ≤ m + 1) (hc : lk (pstep x.s x.f q).1.vs (x.f.first + 1) = cLag x.s x.f ∨ lk (pstep x.s x.f q).1.vs (x.f.first + 1) ≠ 0) (hT2 : T' = T ∨ cLag x.s x.f = 0) : Inv (x.stP q) (m + 1) H T' a := by
  have hl := h.plen hP
  have g1 := h.HT
  have g2 := h.lg
  have ee : (x.stP q).ended = x.ended + 1 := by simp [Xs.stP, hnx]
  have eP : (x.stP q).P = none := by simp [Xs.stP, hnx]
  refine { n1 := h.n1, f0 := h.f0, vl := by show (pstep x.s x.f q).1.vs.length = _; rw [hvl]; exact h.vl, lg := by show (pstep x.s x.f q).1.lg.length ≤ _; rw [hlg]; omega, act := hact.trans h.act, hH := hhead.trans h.hH, hT := htail,
           HT := ⟨by omega, hT.2⟩, ring := hring, il := hil, inc := h.inc, pos := h.pos, pl := by rw [ee, eP]; show x.pushed.length = _; simp [hl], pm := Nat.le_succ_of_le h.pm, itp := hitp, lag := ?_, lst := h.lst, gl := ⟨h.gl.1, Nat.le_succ_of_le h.gl.2⟩, cnt := h.cnt, flast := h.flast,
           fpr := ⟨by rw [eP]; show (_ != _) = _; simp [hnx], h.fpr.2⟩, prod := ?_, cons := ?_ }
  · rw [ee]
    rcases hlag with ⟨c1, c2⟩ | ⟨c1, c2, c3⟩
    · exact .inl ⟨c1, c2⟩
    · exact .inr ⟨c1, c2, c3, fun q' hq' => by rw [eP] at hq'; cases hq'⟩
  · intro q' hq'
    rw [eP] at hq'
    cases hq'
  · intro r hr
    exact rinv_move (h.cons r hr) rfl hpre rfl rfl rfl hT.1 hc hT2 g1.1

theorem w64_small {z : Int} (h0 : 0 ≤ z) (h1 : z < 1000000) : w64 z = z := by unfold w64; omega

/-- A step of the push. -/
theorem inv_stP (h : Inv x m H T a) (hm : m ≤ 1000) {q : Pd} (hP : x.P = some q) :
    ∃ T', Inv (x.stP q) (m + 1) H T' a ∧ flen (pstep x.s x.f q).1 x.f ≤ x.f.n ∧ x.steps + 1 ≤ 6 := by
  have hq := h.prod q hP
  have g1 := h.HT
  have hl := h.plen hP
  have hlp := h.lastp hP
  have hv := h.vl
  have h0 := h.f0
  have hal := h.alen
  suffices hs : ∃ T', Inv (x.stP q) (m + 1) H T' a by
    obtain ⟨T', hi⟩ := hs
    refine ⟨T', hi, ?_, by have := hq.st.1; omega⟩
    have e1 : cHead (pstep x.s x.f q).1 x.f = H := hi.hH
    have e2 : cTail (pstep x.s x.f q).1 x.f = T' := hi.hT
    have := hi.HT
    unfold flen
    rw [e1, e2]
    have e3 : (x.stP q).f.n = x.f.n := rfl
    omega
  have hst := hq.st
  rcases hq.ph with e | e | e | e | e | e | e
  · -- 26
    have ho : pstep x.s x.f q = (x.s.load q.t x.f.first, 27, q.l) := by unfold pstep; rw [if_pos e, if_neg (by rw [h.act]; decide)]
    refine ⟨T, inv_keep h hP (by rw [ho]; rfl) (by rw [ho]; exact load_lg _ _ _) (by rw [ho]; simp) (by omega) ?_ (fun _ => by rw [ho]; simp)⟩
    refine { t := hq.t, p := hq.p, ph := by rw [Pd.next, ho]; simp, lag0 := fun e' => ?_, sw := fun e' => ?_, room := fun e' => ?_, item := fun e' => ?_, mark := fun e' => ?_, st := ?_ }
    all_goals (try (rw [Pd.next, ho] at e'; simp at e'; done))
    rw [Pd.next, ho]; simp [Xs.stP]; omega
  · -- 27
    by_cases hc : cLag x.s x.f = 0
    · have ho : pstep x.s x.f q = (x.s.load q.t (x.f.first + 1 : Nat), 29, cLag x.s x.f) := by unfold pstep; rw [if_neg (by omega), if_pos e, if_pos hc]
      refine ⟨T, inv_keep h hP (by rw [ho]; rfl) (by rw [ho]; exact load_lg _ _ _) (by rw [ho]; simp) (by omega) ?_ (fun hn => absurd hc hn)⟩
      refine { t := hq.t, p := hq.p, ph := by rw [Pd.next, ho]; simp, lag0 := fun e' => ?_, sw := fun e' => ?_, room := fun e' => ?_, item := fun e' => ?_, mark := fun e' => ?_, st := ?_ }
      · show lk (pstep x.s x.f q).1.vs (x.f.first + 1) = 0
        rw [ho]; exact hc
      all_goals (try (rw [Pd.next, ho] at e'; simp at e'; done))
      rw [Pd.next, ho]; simp [Xs.stP]; omega
    · have ho : pstep x.s x.f q = (x.s.load q.t (x.f.first + 1 : Nat), 28, cLag x.s x.f) := by unfold pstep; rw [if_neg (by omega), if_pos e, if_neg hc]
      refine ⟨T, inv_keep h hP (by rw [ho]; rfl) (by rw [ho]; exact load_lg _ _ _) (by rw [ho]; simp) (by omega) ?_ (fun _ => by rw [ho]; simp)⟩
      refine { t := hq.t, p := hq.p, ph := by rw [Pd.next, ho]; simp, lag0 := fun e' => ?_, sw := fun e' => ?_, room := fun e' => ?_, item := fun e' => ?_, mark := fun e' => ?_, st := ?_ }
      · rw [Pd.next, ho] at e'; simp at e'
      · rw [Pd.next, ho]
        refine ⟨hc, .inl ?_⟩
        show lk (pstep x.s x.f q).1.vs (x.f.first + 1) = _
        rw [ho]; rfl
      all_goals (try (rw [Pd.next, ho] at e'; simp at e'; done))
      rw [Pd.next, ho]; simp [Xs.stP]; omega
  · -- 28
    have hsw := hq.sw e
    by_cases hc : cLag x.s x.f = q.l
    · have hc1 : lk x.s.vs (x.f.first + 1) = q.l := hc
      have ho : pstep x.s x.f q = (x.s.setlog (x.f.first + 1) q.p ⟨q.t, (x.f.first + 1 : Nat), 5, q.l, q.p, true⟩, 0, q.l) := by
        unfold pstep; rw [if_neg (by omega), if_neg (by omega), if_pos e]
        simp only [BS.cas, cLag, Int.toNat_natCast, hc1, if_true]
      have hfull : x.full = true ∧ a + (T - H) < x.ended := by
        rcases h.lag with ⟨c1, _⟩ | ⟨_, c2, c3, _⟩
        · exact absurd (hc.symm.trans c1) hsw.1
        · exact ⟨c3, c2⟩
      have ei : (x.stP q).items = x.items := by simp [Xs.stP, e]
      have es : (pstep x.s x.f q).1.vs = x.s.vs.set (x.f.first + 1) q.p := by rw [ho]; rfl
      refine ⟨T, inv_endP h hP (by rw [ho]) (by rw [es]; simp) (by rw [ho]; simp [BS.setlog]) (by rw [es]; exact lk_set_ne _ (by omega)) (by rw [es]; exact lk_set_ne _ (by omega)) (by rw [es, lk_set_ne _ (by omega)]; exact h.hT) ?_ (by rw [ei]; exact h.il) (by rw [ei]; exact h.itp) (fun j _ => by rw [ei]) ?_ ⟨Nat.le_refl _, g1.2.1, by omega⟩ ?_ (.inl rfl)⟩
      · intro j h1 h2
        rw [es, ei, lk_set_ne _ (by rw [ent_nat h0]; omega)]
        exact h.ring j h1 h2
      · refine .inr ⟨?_, by omega, by simp [Xs.stP, hfull.1]⟩
        rw [es, lk_set _ (by omega), hq.p]; exact hlp.1
      · refine .inr ?_
        rw [es, lk_set _ (by omega), hq.p]
        omega
    · have hc0 : cLag x.s x.f = 0 := by
        rcases hsw.2 with c | c
        · exact absurd c hc
        · exact c
      have hc1 : ¬ lk x.s.vs (x.f.first + 1) = q.l := hc
      have ho : pstep x.s x.f q = (x.s.log ⟨q.t, (x.f.first + 1 : Nat), 5, lk x.s.vs (x.f.first + 1), lk x.s.vs (x.f.first + 1), false⟩, 29, q.l) := by
        unfold pstep; rw [if_neg (by omega), if_neg (by omega), if_pos e]
        simp only [BS.cas, cLag, Int.toNat_natCast, hc1, if_false]
      refine ⟨T, inv_keep h hP (by rw [ho]; rfl) (by rw [ho]; simp [BS.log]) (by rw [ho]; simp) (by omega) ?_ (fun hn => absurd hc0 hn)⟩
      refine { t := hq.t, p := hq.p, ph := by rw [Pd.next, ho]; simp, lag0 := fun e' => ?_, sw := fun e' => ?_, room := fun e' => ?_, item := fun e' => ?_, mark := fun e' => ?_, st := ?_ }
      · show lk (pstep x.s x.f q).1.vs (x.f.first + 1) = 0
        rw [ho]; exact hc0
      all_goals (try (rw [Pd.next, ho] at e'; simp at e'; done))
      rw [Pd.next, ho]; simp [Xs.stP]; omega
  · -- 29
    have hc0 := hq.lag0 (by omega)
    have hw : w64 (cTail x.s x.f - cHead x.s x.f) = (T : Int) - H := by rw [h.hT, h.hH, w64_small (by omega) (by omega)]
    by_cases hc : (T : Int) - H < x.f.n
    · have ho : pstep x.s x.f q = (x.s.load q.t (x.f.first + 2 : Nat), 30, q.l) := by unfold pstep; rw [if_neg (by omega), if_neg (by omega), if_neg (by omega), if_pos e, hw, if_pos hc]
      refine ⟨T, inv_keep h hP (by rw [ho]; rfl) (by rw [ho]; exact load_lg _ _ _) (by rw [ho]; simp) (by omega) ?_ (fun hn => absurd hc0 hn)⟩
      refine { t := hq.t, p := hq.p, ph := by rw [Pd.next, ho]; simp, lag0 := fun e' => ?_, sw := fun e' => ?_, room := fun e' => ?_, item := fun e' => ?_, mark := fun e' => ?_, st := ?_ }
      · show lk (pstep x.s x.f q).1.vs (x.f.first + 1) = 0
        rw [ho]; exact hc0
      · rw [Pd.next, ho] at e'; simp at e'
      · show T < H + x.f.n
        omega
      all_goals (try (rw [Pd.next, ho] at e'; simp at e'; done))
      rw [Pd.next, ho]; simp [Xs.stP]; omega
    · have ho : pstep x.s x.f q = (x.s.load q.t (x.f.first + 2 : Nat), 32, q.l) := by unfold pstep; rw [if_neg (by omega), if_neg (by omega), if_neg (by omega), if_pos e, hw, if_neg hc]
      refine ⟨T, inv_keep h hP (by rw [ho]; rfl) (by rw [ho]; exact load_lg _ _ _) (by rw [ho]; simp) (by omega) ?_ (fun hn => absurd hc0 hn)⟩
      refine { t := hq.t, p := hq.p, ph := by rw [Pd.next, ho]; simp, lag0 := fun e' => ?_, sw := fun e' => ?_, room := fun e' => ?_, item := fun e' => ?_, mark := fun e' => ?_, st := ?_ }
      · show lk (pstep x.s x.f q).1.vs (x.f.first + 1) = 0
        rw [ho]; exact hc0
      · rw [Pd.next, ho] at e'; simp at e'
      · rw [Pd.next, ho] at e'; simp at e'
      · rw [Pd.next, ho] at e'; simp at e'
      · have : x.f.n ≤ flen (pstep x.s x.f q).1 x.f := by
          have e1 : cHead (pstep x.s x.f q).1 x.f = H := by rw [ho]; exact h.hH
          have e2 : cTail (pstep x.s x.f q).1 x.f = T := by rw [ho]; exact h.hT
          unfold flen
          rw [e1, e2]
          omega
        simp [Xs.stP, e, this]
      rw [Pd.next, ho]; simp [Xs.stP]; omega
  · -- 30
    have hc0 := hq.lag0 (by omega)
    have hrm := hq.room (.inl e)
    have ho : pstep x.s x.f q = (x.s.store q.t (x.f.ent (cTail x.s x.f) : Nat) q.p, 31, q.l) := by unfold pstep; rw [if_neg (by omega), if_neg (by omega), if_neg (by omega), if_neg (by omega), if_pos e]
    have ht : x.f.ent (cTail x.s x.f) = 4 + T % x.f.n := by rw [h.hT, ent_nat h0]
    have es : (pstep x.s x.f q).1.vs = x.s.vs.set (4 + T % x.f.n) q.p := by rw [ho, ht]; rfl
    have hlt : T % x.f.n < x.f.n := Nat.mod_lt _ (by omega)
    have hvl30 : (x.stP q).s.vs.length = (x.stP q).f.n + 4 := by
      show (pstep x.s x.f q).1.vs.length = x.f.n + 4
      rw [es, List.length_set]; exact hv
    have hlg30 : (x.stP q).s.lg.length ≤ m + 1 := by
      show (pstep x.s x.f q).1.lg.length ≤ m + 1
      have := h.lg
      rw [ho, store_lg]; omega
    have e1 : cAct (x.stP q).s (x.stP q).f = cAct x.s x.f := by show lk (pstep x.s x.f q).1.vs x.f.first = _; rw [es]; exact lk_set_ne _ (by omega)
    have e2 : cLag (x.stP q).s (x.stP q).f = cLag x.s x.f := by show lk (pstep x.s x.f q).1.vs (x.f.first + 1) = _; rw [es]; exact lk_set_ne _ (by omega)
    have e3 : cHead (x.stP q).s (x.stP q).f = cHead x.s x.f := by show lk (pstep x.s x.f q).1.vs (x.f.first + 2) = _; rw [es]; exact lk_set_ne _ (by omega)
    have e4 : cTail (x.stP q).s (x.stP q).f = cTail x.s x.f := by show lk (pstep x.s x.f q).1.vs (x.f.first + 3) = _; rw [es]; exact lk_set_ne _ (by omega)
    have ei : (x.stP q).items = x.items := by simp [Xs.stP, e]
    have ee : (x.stP q).ended = x.ended := by simp [Xs.stP, ho]
    have eP : (x.stP q).P = some (q.next (pstep x.s x.f q)) := by simp [Xs.stP, ho]
    refine ⟨T, ?_⟩
    refine { n1 := h.n1, f0 := h.f0, vl := hvl30, lg := hlg30, act := e1.trans h.act, hH := e3.trans h.hH, hT := e4.trans h.hT, HT := ⟨g1.1, g1.2.1, by omega⟩, ring := ?_, il := by rw [ei]; exact h.il, inc := h.inc, pos := h.pos, pl := by rw [ee, eP]; show x.pushed.length = _; simp [hl], pm := Nat.le_succ_of_le h.pm, itp := by rw [ei]; exact h.itp, lag := ?_, lst := h.lst, gl := ⟨h.gl.1, Nat.le_succ_of_le h.gl.2⟩, cnt := h.cnt, flast := h.flast, fpr := ⟨by rw [eP]; show (_ != _) = _; rw [ho]; rfl, h.fpr.2⟩, prod := ?_, cons := ?_ }
    · intro j h1 h2
      rw [ei]
      show lk (pstep x.s x.f q).1.vs (x.f.ent j) = _
      rw [es, ent_nat h0, lk_set_ne _ (by have := mod_ne (i := j) (j := T) (n := x.f.n) h2 (by omega); omega)]
      have := h.ring j h1 h2
      rw [ent_nat h0] at this
      exact this
    · rw [e2, ee]
      rcases h.lag with ⟨c1, c2⟩ | ⟨c1, c2, _⟩
      · exact .inl ⟨c1, c2⟩
      · have := h.pos (x.ended - 1) (by omega)
        rw [← c1, hc0] at this
        omega
    · intro q' hq'
      rw [eP] at hq'
      obtain rfl := Option.some.inj hq'
      refine { t := hq.t, p := hq.p, ph := by rw [Pd.next, ho]; simp, lag0 := fun e' => ?_, sw := fun e' => ?_, room := fun e' => hrm, item := fun e' => ?_, mark := fun e' => ?_, st := ?_ }
      · rw [e2]; exact hc0
      · rw [Pd.next, ho] at e'; simp at e'
      · show lk (pstep x.s x.f q).1.vs (x.f.ent T) = q.p
        rw [es, ent_nat h0, lk_set _ (by omega)]
      · rw [Pd.next, ho] at e'; simp at e'
      rw [Pd.next, ho]; simp [Xs.stP]; omega
    · intro r hr
      exact rinv_move (h.cons r hr) rfl (fun j _ => by rw [ei]) rfl rfl rfl (Nat.le_refl _) (.inl e2) (.inl rfl) g1.1
  · -- 31
    have hc0 := hq.lag0 (by omega)
    have hrm := hq.room (.inr e)
    have hit := hq.item e
    have hw : w64 (cTail x.s x.f + 1) = (T + 1 : Nat) := by rw [h.hT, w64_small (by omega) (by omega)]; omega
    have ho : pstep x.s x.f q = (x.s.store q.t (x.f.first + 3 : Nat) (T + 1 : Nat), 0, q.l) := by unfold pstep; rw [if_neg (by omega), if_neg (by omega), if_neg (by omega), if_neg (by omega), if_neg (by omega), if_pos e, hw]
    have es : (pstep x.s x.f q).1.vs = x.s.vs.set (x.f.first + 3) ((T + 1 : Nat) : Int) := by rw [ho]; rfl
    have ei : (x.stP q).items = x.items ++ [lastI x.pushed] := by simp [Xs.stP, e]
    have hil := h.il
    have hend : x.ended = a + (T - H) := by
      rcases h.lag with ⟨_, c2⟩ | ⟨c1, c2, _⟩
      · exact c2
      · have := h.pos (x.ended - 1) (by omega)
        rw [← c1, hc0] at this
        omega
    have hpr : ∀ j, j < T → lk (x.stP q).items j = lk x.items j := fun j hj => by rw [ei, lk_app_l (by omega)]
    have hlast : lk (x.stP q).items T = lastI x.pushed := by rw [ei, ← hil, lk_snoc]
    refine ⟨T + 1, inv_endP h hP (by rw [ho]) (by rw [es]; simp) (by rw [ho]; exact store_lg _ _ _ _) (by rw [es]; exact lk_set_ne _ (by omega)) (by rw [es]; exact lk_set_ne _ (by omega)) (by rw [es]; exact lk_set _ (by omega)) ?_ (by rw [ei]; simp [hil]) ?_ hpr ?_ ⟨by omega, by omega, by omega⟩ (.inl (by rw [es]; exact lk_set_ne _ (by omega))) (.inr hc0)⟩
    · intro j h1 h2
      rw [es, lk_set_ne _ (by rw [ent_nat h0]; omega)]
      by_cases hj : j < T
      · rw [hpr j hj]; exact h.ring j h1 hj
      · obtain rfl : j = T := by omega
        rw [hlast, hit, hq.p]
    · intro j h1 h2
      by_cases hj : j < T
      · rw [hpr j hj]; exact h.itp j h1 hj
      · obtain rfl : j = T := by omega
        rw [hlast, hlp.1, hend]
    · refine .inl ⟨?_, by omega⟩
      rw [es, lk_set_ne _ (by omega)]; exact hc0
  · -- 32
    have hc0 := hq.lag0 (by omega)
    have ho : pstep x.s x.f q = (x.s.store q.t (x.f.first + 1 : Nat) q.p, 0, q.l) := by unfold pstep; rw [if_neg (by omega), if_neg (by omega), if_neg (by omega), if_neg (by omega), if_neg (by omega), if_neg (by omega)]
    have es : (pstep x.s x.f q).1.vs = x.s.vs.set (x.f.first + 1) q.p := by rw [ho]; rfl
    have ei : (x.stP q).items = x.items := by simp [Xs.stP, e]
    refine ⟨T, inv_endP h hP (by rw [ho]) (by rw [es]; simp) (by rw [ho]; exact store_lg _ _ _ _) (by rw [es]; exact lk_set_ne _ (by omega)) (by rw [es]; exact lk_set_ne _ (by omega)) (by rw [es, lk_set_ne _ (by omega)]; exact h.hT) ?_ (by rw [ei]; exact h.il) (by rw [ei]; exact h.itp) (fun j _ => by rw [ei]) ?_ ⟨Nat.le_refl _, g1.2.1, by omega⟩ ?_ (.inl rfl)⟩
    · intro j h1 h2
      rw [es, ei, lk_set_ne _ (by rw [ent_nat h0]; omega)]
      exact h.ring j h1 h2
    · refine .inr ⟨?_, by omega, by simp [Xs.stP, hq.mark e]⟩
      rw [es, lk_set _ (by omega), hq.p]; exact hlp.1
    · refine .inr ?_
      rw [es, lk_set _ (by omega), hq.p]
      omega
end
end Go.Proofs.Ytonjbofdmmnpdaa
