/- Runs of an epoch, a limbo and their readers: the plain law. -/
import Derived.Test.YtokcodeeaneeaaaEpB
namespace Go.Proofs.Ytokcodeeaneeaaa
set_option linter.unusedVariables false
set_option linter.unusedSimpArgs false
set_option linter.unusedSectionVars false

/-- A retired handle. -/
structure Rt where
  ep : Int
  sl : List Bool
  due : Bool
/-- The handles of a list of the limbo. -/
def lim : List Rt → Nat → Int → List Int
  | [], _, _ => []
  | r :: l, i, j => if r.due = false ∧ r.ep % 3 = j then ((i : Int) + 1) :: lim l (i + 1) j else lim l (i + 1) j
def mark (o : List Rt) (h : Int) : List Rt := o.modify (h - 1).toNat fun r => { r with due := true }
def okR (now : Int) (r : Rt) : Bool := !r.due && decide (r.ep + 2 ≤ now) && r.sl.all (fun b => !b)
def okAt (now : Int) (o : List Rt) (h : Int) : Bool := ((o[(h - 1).toNat]?).map (okR now)).getD true
def dueF (now : Int) (x : List Rt × Bool) (h : Int) : List Rt × Bool := (mark x.1 h, x.2 && okAt now x.1 h)
def inJ (j : Int) (r : Rt) : Prop := r.due = false ∧ r.ep % 3 = j
instance (j : Int) (r : Rt) : Decidable (inJ j r) := by unfold inJ; infer_instance
def mk1 (j : Int) (r : Rt) : Rt := if inJ j r then { r with due := true } else r
def markAll (o : List Rt) (j : Int) : List Rt := o.map (mk1 j)
def okAll (now j : Int) (o : List Rt) : Bool := o.all fun r => if inJ j r then okR now r else true

theorem lim_cons (r : Rt) (l : List Rt) (i : Nat) (j : Int) : lim (r :: l) i j = if inJ j r then ((i : Int) + 1) :: lim l (i + 1) j else lim l (i + 1) j := rfl
theorem modify_mid (f : Rt → Rt) (r : Rt) (l : List Rt) : ∀ pre : List Rt, (pre ++ r :: l).modify pre.length f = pre ++ f r :: l := by
  intro pre
  induction pre with
  | nil => rfl
  | cons x pre ih => simp [ih]
theorem due_fold (now j : Int) : ∀ (o pre : List Rt) (b : Bool), (lim o pre.length j).foldl (dueF now) (pre ++ o, b) = (pre ++ markAll o j, b && okAll now j o) := by
  intro o
  induction o with
  | nil => intro pre b; simp [lim, markAll, okAll]
  | cons r l ih =>
    intro pre b
    have hm : markAll (r :: l) j = mk1 j r :: markAll l j := rfl
    have ho : okAll now j (r :: l) = ((if inJ j r then okR now r else true) && okAll now j l) := by simp [okAll]
    rw [lim_cons, hm, ho]
    by_cases hj : inJ j r
    · rw [if_pos hj, if_pos hj, List.foldl_cons]
      have e1 : ((pre.length : Int) + 1 - 1).toNat = pre.length := by omega
      have e2 : mark (pre ++ r :: l) ((pre.length : Int) + 1) = (pre ++ [mk1 j r]) ++ l := by
        unfold mark
        rw [e1]
        unfold mk1
        rw [if_pos hj]
        rw [modify_mid]
        simp
      have e3 : okAt now (pre ++ r :: l) ((pre.length : Int) + 1) = okR now r := by
        unfold okAt
        rw [e1]
        simp
      have e4 : dueF now (pre ++ r :: l, b) ((pre.length : Int) + 1) = ((pre ++ [mk1 j r]) ++ l, b && okR now r) := by
        unfold dueF
        rw [e2, e3]
      have := ih (pre ++ [mk1 j r]) (b && okR now r)
      rw [List.length_append, List.length_singleton] at this
      rw [e4, this]
      simp [Bool.and_assoc]
    · rw [if_neg hj, if_neg hj]
      have := ih (pre ++ [r]) b
      rw [List.length_append, List.length_singleton] at this
      rw [show pre ++ r :: l = (pre ++ [r]) ++ l by simp, this]
      simp [mk1, hj]
theorem due_fold0 (now j : Int) (o : List Rt) (b : Bool) : (lim o 0 j).foldl (dueF now) (o, b) = (markAll o j, b && okAll now j o) := due_fold now j o [] b

theorem lim_mem {j : Int} : ∀ {o : List Rt} {i : Nat} {h : Int}, h ∈ lim o i j → ∃ (k : Nat) (r : Rt), h = (i : Int) + k + 1 ∧ o[k]? = some r ∧ inJ j r := by
  intro o
  induction o with
  | nil => intro i h hh; cases hh
  | cons r l ih =>
    intro i h hh
    rw [lim_cons] at hh
    have next : h ∈ lim l (i + 1) j → ∃ (k : Nat) (r' : Rt), h = (i : Int) + k + 1 ∧ (r :: l)[k]? = some r' ∧ inJ j r' := fun hh => by
      obtain ⟨k, r', e, h1, h2⟩ := ih hh
      exact ⟨k + 1, r', by omega, by simpa using h1, h2⟩
    split at hh
    · rename_i hj
      rcases List.mem_cons.1 hh with e | hh
      · exact ⟨0, r, by omega, rfl, hj⟩
      · exact next hh
    · exact next hh
theorem lim_nodup (j : Int) : ∀ (o : List Rt) (i : Nat), (lim o i j).Nodup := by
  intro o
  induction o with
  | nil => intro i; exact List.nodup_nil
  | cons r l ih =>
    intro i
    rw [lim_cons]
    split
    · refine List.nodup_cons.2 ⟨fun hh => ?_, ih _⟩
      obtain ⟨k, _, e, _⟩ := lim_mem hh
      omega
    · exact ih _
theorem lim_len (j : Int) : ∀ (o : List Rt) (i : Nat), (lim o i j).length ≤ o.length := by
  intro o
  induction o with
  | nil => intro i; exact Nat.le_refl _
  | cons r l ih =>
    intro i
    rw [lim_cons]
    split
    · simp only [List.length_cons]; have := ih (i + 1); omega
    · simp only [List.length_cons]; have := ih (i + 1); omega
theorem lim_app (j : Int) (r : Rt) : ∀ (o : List Rt) (i : Nat), lim (o ++ [r]) i j = lim o i j ++ if inJ j r then [((i + o.length : Nat) : Int) + 1] else [] := by
  intro o
  induction o with
  | nil => intro i; simp only [List.nil_append, lim_cons, lim]; split <;> simp
  | cons x l ih =>
    intro i
    rw [List.cons_append, lim_cons, lim_cons, ih (i + 1), List.length_cons, show i + 1 + l.length = i + (l.length + 1) by omega]
    split <;> simp
/-- What changes no epoch and no due flag changes no list. -/
theorem lim_map (F : Rt → Rt) (j : Int) (hF : ∀ r, inJ j (F r) ↔ inJ j r) : ∀ (o : List Rt) (i : Nat), lim (o.map F) i j = lim o i j := by
  intro o
  induction o with
  | nil => intro i; rfl
  | cons r l ih =>
    intro i
    rw [List.map_cons, lim_cons, lim_cons, ih]
    by_cases h : inJ j r
    · rw [if_pos h, if_pos ((hF r).2 h)]
    · rw [if_neg h, if_neg (fun e => h ((hF r).1 e))]
theorem lim_marked (j : Int) : ∀ (o : List Rt) (i : Nat), lim (markAll o j) i j = [] := by
  intro o
  induction o with
  | nil => intro i; rfl
  | cons r l ih =>
    intro i
    show lim (mk1 j r :: markAll l j) i j = []
    rw [lim_cons, ih, if_neg]
    unfold mk1
    split
    · exact fun e => by simp [inJ] at e
    · assumption
theorem lim_other {j j' : Int} (hne : j' ≠ j) (o : List Rt) (i : Nat) : lim (markAll o j) i j' = lim o i j' := by
  refine lim_map _ j' (fun r => ?_) o i
  unfold mk1
  split
  · rename_i h
    refine ⟨fun e => by simp [inJ] at e, fun e => absurd (e.2.symm.trans h.2) hne⟩
  · exact Iff.rfl
def limAll (o : List Rt) : List Int := lim o 0 0 ++ lim o 0 1 ++ lim o 0 2
theorem lim_disj {j j' : Int} (hne : j ≠ j') (o : List Rt) {h : Int} (h1 : h ∈ lim o 0 j) (h2 : h ∈ lim o 0 j') : False := by
  obtain ⟨k, r, e, hk, hr⟩ := lim_mem h1
  obtain ⟨k', r', e', hk', hr'⟩ := lim_mem h2
  obtain rfl : k = k' := by omega
  rw [hk] at hk'
  cases hk'
  exact hne (hr.2.symm.trans hr'.2)
theorem limAll_fresh (o : List Rt) : (limAll o ++ [(o.length : Int) + 1]).Nodup := by
  have big : ∀ (j : Int) {h : Int}, h ∈ lim o 0 j → h ≤ o.length := fun j h hh => by
    obtain ⟨k, r, e, hk, hr⟩ := lim_mem hh
    have := (List.getElem?_eq_some_iff.1 hk).1
    omega
  unfold limAll
  simp only [List.nodup_append, List.mem_append, List.mem_singleton]
  refine ⟨⟨⟨lim_nodup _ _ _, lim_nodup _ _ _, fun a ha b hb e => ?_⟩, lim_nodup _ _ _, fun a ha b hb e => ?_⟩, by simp, fun a ha b hb e => ?_⟩
  · subst e; exact lim_disj (by decide) o ha hb
  · subst e
    rcases ha with ha | ha
    · exact lim_disj (by decide) o ha hb
    · exact lim_disj (by decide) o ha hb
  · subst e
    subst hb
    rcases ha with (ha | ha) | ha
    · have := big _ ha; omega
    · have := big _ ha; omega
    · have := big _ ha; omega
theorem limAll_len (o : List Rt) : (limAll o).length ≤ 3 * o.length := by
  unfold limAll
  have h0 := lim_len 0 o 0
  have h1 := lim_len 1 o 0
  have h2 := lim_len 2 o 0
  simp only [List.length_append]
  omega

/-- A run. -/
structure Xr where
  s : BS
  ps : List (Option Pn)
  sc : Option Sn
  old : List Rt
  fine : Bool
def edf (n : Nat) : Ed := ⟨0, 1, n⟩
theorem edf_slot (n k : Nat) : (edf n).slot k = k + 1 := by
  show ((1 : Int) + (k : Int)).toNat = k + 1
  omega
def Xr.now (x : Xr) : Int := lk x.s.vs 0
def Xr.pin (x : Xr) (k : Nat) : Option Pn := x.ps[k]?.getD none
def sn0 (n : Nat) : Sn := ⟨15, 0, false, if 0 < n then 34 else 35⟩
def pn0 (k : Nat) : Pn := ⟨k, k, 0, 9⟩
def dueJ (now : Int) : Int := (now % 3 + 1) % 3
/-- A step of a scan. -/
def xscan (n : Nat) (x : Xr) : Xr :=
  let r := snstep x.s (edf n) (x.sc.getD (sn0 n))
  if r.2.ph = 0 then
    if r.2.adv then
      let d := (lim x.old 0 (dueJ (lk r.1.vs 0))).foldl (dueF (lk r.1.vs 0)) (x.old, x.fine)
      { x with s := r.1, sc := none, old := d.1, fine := d.2 }
    else { x with s := r.1, sc := none }
  else { x with s := r.1, sc := some r.2 }
/-- A step of a pin, which is begun first. -/
def xpin (n k : Nat) (x : Xr) : Xr :=
  let q := (x.pin k).getD (pn0 k)
  if q.ph = 0 then x else { x with s := (pnstep x.s (edf n) q).1, ps := x.ps.set k (some (pnstep x.s (edf n) q).2) }
def reset (k : Nat) (o : List Rt) : List Rt := o.map fun r => { r with sl := r.sl.set k false }
def xunpin (n k : Nat) (x : Xr) : Xr := { x with s := x.s.store k ((edf n).slot k : Nat) 0, ps := x.ps.set k none, old := reset k x.old }
/-- The same, without a change of what was retired. -/
def xunpin0 (n k : Nat) (x : Xr) : Xr := { x with s := x.s.store k ((edf n).slot k : Nat) 0, ps := x.ps.set k none }
def isOn : Option Pn → Bool
  | some q => q.ph == 0
  | none => false
def xret (x : Xr) : Xr := { x with old := x.old ++ [⟨x.now, x.ps.map isOn, false⟩] }

def PinOk (s : BS) (k : Nat) : Option Pn → Prop
  | none => lk s.vs (k + 1) = 0
  | some q => q.t = k ∧ q.slot = k ∧ ((q.ph = 9 ∧ lk s.vs (k + 1) = 0) ∨ (q.ph = 10 ∧ lk s.vs (k + 1) = 0 ∧ 0 ≤ q.seen ∧ q.seen ≤ lk s.vs 0) ∨ (q.ph = 0 ∧ lk s.vs (k + 1) = q.seen + 1 ∧ 0 ≤ q.seen ∧ q.seen ≤ lk s.vs 0))
def ScOk (n : Nat) (q : Sn) : Prop := q.t = 15 ∧ q.adv = false ∧ q.at' ≤ n ∧ q.ph = if q.at' < n then 34 else 35
structure EInv (n m : Nat) (x : Xr) : Prop where
  vl : x.s.vs.length = n + 1
  ll : x.s.lg.length ≤ m
  nw : 0 ≤ x.now ∧ x.now ≤ m
  pl : x.ps.length = n
  pk : ∀ k, k < n → PinOk x.s k (x.pin k)
  sc : ∀ q, x.sc = some q → ScOk n q
  ol : ∀ r ∈ x.old, r.sl.length = n ∧ 0 ≤ r.ep ∧ r.ep ≤ x.now ∧ (r.due = false → x.now ≤ r.ep + 1)
/-- Slot k has been announced since epoch e. -/
def Held (k : Nat) (e : Int) (x : Xr) : Prop := ∃ q, x.pin k = some q ∧ q.ph = 0 ∧ q.seen ≤ e ∧ e ≤ x.now ∧ x.now ≤ e + 1 ∧ (x.now = e + 1 → ∀ q', x.sc = some q' → q'.at' ≤ k)
structure GInv (n m : Nat) (x : Xr) : Prop extends EInv n m x where
  gr : ∀ r ∈ x.old, ∀ k, k < n → r.sl[k]?.getD false = true → Held k r.ep x
  fn : x.fine = true

section
variable {n m : Nat} {x : Xr}
theorem scok_get (h : EInv n m x) : ScOk n (x.sc.getD (sn0 n)) := by
  cases hs : x.sc with
  | none => exact ⟨rfl, rfl, Nat.zero_le _, rfl⟩
  | some q => exact h.sc q hs
theorem getD_at (h : ∀ q', x.sc = some q' → q'.at' ≤ m) : (x.sc.getD (sn0 n)).at' ≤ m := by
  cases hs : x.sc with
  | none => exact Nat.zero_le _
  | some q => exact h q hs
/-- The three ends of a step of a scan. -/
theorem xscan_cases (h : EInv n m x) (hm : m < 1000000) :
    (∃ a, a < n ∧ a = (x.sc.getD (sn0 n)).at' ∧ (lk x.s.vs (a + 1) ≠ 0 ∧ lk x.s.vs (a + 1) ≠ x.now + 1) ∧ xscan n x = { x with s := x.s.load 15 (a + 1 : Nat), sc := none })
    ∨ (∃ a, a < n ∧ a = (x.sc.getD (sn0 n)).at' ∧ ¬ (lk x.s.vs (a + 1) ≠ 0 ∧ lk x.s.vs (a + 1) ≠ x.now + 1) ∧ xscan n x = { x with s := x.s.load 15 (a + 1 : Nat), sc := some ⟨15, a + 1, false, if a + 1 < n then 34 else 35⟩ })
    ∨ ((x.sc.getD (sn0 n)).at' = n ∧ xscan n x = { x with s := x.s.store 15 0 (x.now + 1), sc := none, old := markAll x.old (dueJ (x.now + 1)), fine := x.fine && okAll (x.now + 1) (dueJ (x.now + 1)) x.old }) := by
  obtain ⟨h1, h2, h3, h4⟩ := scok_get h
  have hw : w64 (x.now + 1) = x.now + 1 := by have := h.nw; unfold w64; omega
  unfold xscan
  generalize hq : x.sc.getD (sn0 n) = q at h1 h2 h3 h4 ⊢
  obtain ⟨t, a, ad, ph⟩ := q
  simp only at h1 h2 h3 h4
  subst h1 h2
  by_cases hlt : a < n
  · rw [if_pos hlt] at h4
    subst h4
    have he : snstep x.s (edf n) ⟨15, a, false, 34⟩ = (x.s.load 15 (a + 1 : Nat), if lk x.s.vs (a + 1) ≠ 0 ∧ lk x.s.vs (a + 1) ≠ x.now + 1 then ⟨15, a, false, 0⟩ else ⟨15, a + 1, false, if a + 1 < n then 34 else 35⟩) := by
      unfold snstep
      rw [if_pos rfl]
      simp only [edf_slot]
      rw [show (edf n).ep = 0 from rfl, show lk x.s.vs 0 = x.now from rfl, hw]
      rfl
    rw [he]
    by_cases hc : lk x.s.vs (a + 1) ≠ 0 ∧ lk x.s.vs (a + 1) ≠ x.now + 1
    · refine .inl ⟨a, hlt, rfl, hc, ?_⟩
      simp only [if_pos hc]
      rfl
    · refine .inr (.inl ⟨a, hlt, rfl, hc, ?_⟩)
      simp only [if_neg hc]
      rw [if_neg]
      split <;> decide
  · obtain rfl : a = n := by omega
    rw [if_neg hlt] at h4
    subst h4
    refine .inr (.inr ⟨rfl, ?_⟩)
    have he : snstep x.s (edf a) ⟨15, a, false, 35⟩ = (x.s.store 15 0 (x.now + 1), ⟨15, a, true, 0⟩) := by
      unfold snstep
      rw [if_neg (show ¬ ((35 : Int) = 34) by decide), if_pos rfl]
      simp only
      rw [show (edf a).ep = 0 from rfl, show lk x.s.vs 0 = x.now from rfl, hw]
      rfl
    rw [he]
    have hl : lk (x.s.store 15 0 (x.now + 1)).vs 0 = x.now + 1 := lk_set _ (by have := h.vl; show 0 < x.s.vs.length; omega)
    simp only [hl, due_fold0]
    rfl
theorem load_vs (s : BS) (t c : Int) : (s.load t c).vs = s.vs := rfl
theorem load_ll (s : BS) (t c : Int) : (s.load t c).lg.length = s.lg.length + 1 := by simp [BS.load, BS.log]
theorem store_vs (s : BS) (t c v : Int) : (s.store t c v).vs = s.vs.set c.toNat v := rfl
theorem store_ll (s : BS) (t c v : Int) : (s.store t c v).lg.length = s.lg.length + 1 := by simp [BS.store, BS.setlog]
theorem lk_set_ne {vs : List Int} {c d : Nat} (v : Int) (h : c ≠ d) : lk (vs.set c v) d = lk vs d := by
  unfold lk
  rw [List.getD_eq_getElem?_getD, List.getD_eq_getElem?_getD, List.getElem?_set_ne h]
theorem dueJ_one {now e : Int} (h1 : now ≤ e + 1) (h2 : e ≤ now) (h3 : e % 3 = dueJ (now + 1)) : e = now - 1 := by unfold dueJ at h3; omega
theorem dueJ_not {now e : Int} (h1 : now ≤ e + 1) (h2 : e ≤ now) (h3 : ¬ e % 3 = dueJ (now + 1)) : e = now := by unfold dueJ at h3; omega
theorem markAll_mem {o : List Rt} {j : Int} {r : Rt} (h : r ∈ markAll o j) : ∃ r0 ∈ o, r.ep = r0.ep ∧ r.sl = r0.sl ∧ (r.due = false → r0.due = false ∧ ¬ r0.ep % 3 = j) := by
  obtain ⟨r0, h0, rfl⟩ := List.mem_map.1 h
  refine ⟨r0, h0, ?_⟩
  unfold mk1
  split
  · exact ⟨rfl, rfl, fun e => by cases e⟩
  · rename_i hn
    exact ⟨rfl, rfl, fun e => ⟨e, fun e' => hn ⟨e, e'⟩⟩⟩

theorem einv_scan (h : EInv n m x) (hm : m < 1000000) : EInv n (m + 1) (xscan n x) := by
  have hnw := h.nw
  have hvl := h.vl
  rcases xscan_cases h hm with ⟨a, ha, hq, hc, e⟩ | ⟨a, ha, hq, hc, e⟩ | ⟨ha, e⟩
  · rw [e]
    exact ⟨h.vl, by rw [load_ll]; have := h.ll; omega, ⟨h.nw.1, by have := h.nw.2; exact Int.le_trans this (by omega)⟩, h.pl, fun k hk => h.pk k hk, fun q hq => (by cases hq), h.ol⟩
  · rw [e]
    exact ⟨h.vl, by rw [load_ll]; have := h.ll; omega, ⟨h.nw.1, by have := h.nw.2; exact Int.le_trans this (by omega)⟩, h.pl, fun k hk => h.pk k hk, fun q hq => (by injection hq with hq; subst hq; exact ⟨rfl, rfl, ha, rfl⟩), h.ol⟩
  · rw [e]
    have hz : lk (x.s.store 15 0 (x.now + 1)).vs 0 = x.now + 1 := lk_set _ (by omega)
    refine ⟨by rw [store_vs, List.length_set]; exact hvl, by rw [store_ll]; have := h.ll; omega, ?_, h.pl, fun k hk => ?_, fun q hq => (by cases hq), fun r hr => ?_⟩
    · show 0 ≤ lk (x.s.store 15 0 (x.now + 1)).vs 0 ∧ lk (x.s.store 15 0 (x.now + 1)).vs 0 ≤ ((m + 1 : Nat) : Int)
      rw [hz]; omega
    · have hk' := h.pk k hk
      have hs : lk (x.s.store 15 0 (x.now + 1)).vs (k + 1) = lk x.s.vs (k + 1) := lk_set_ne _ (by simp)
      show PinOk (x.s.store 15 0 (x.now + 1)) k (x.pin k)
      have hn0 : x.now = lk x.s.vs 0 := rfl
      cases hp : x.pin k with
      | none =>
        rw [hp] at hk'
        exact hs.trans hk'
      | some q =>
        rw [hp] at hk'
        unfold PinOk at hk' ⊢
        simp only at hk' ⊢
        rw [hs, hz]
        omega
    · obtain ⟨r0, h0, e1, e2, e3⟩ := markAll_mem hr
      obtain ⟨o1, o2, o3, o4⟩ := h.ol r0 h0
      show r.sl.length = n ∧ 0 ≤ r.ep ∧ r.ep ≤ lk (x.s.store 15 0 (x.now + 1)).vs 0 ∧ (r.due = false → lk (x.s.store 15 0 (x.now + 1)).vs 0 ≤ r.ep + 1)
      rw [hz, e1, e2]
      refine ⟨o1, o2, by omega, fun hd => ?_⟩
      obtain ⟨d1, d2⟩ := e3 hd
      have := dueJ_not (o4 d1) o3 d2
      omega
/-- A slot that is held stays held over a step of a scan. -/
theorem held_scan (h : EInv n m x) (hm : m < 1000000) {k : Nat} (hk : k < n) {e : Int} (hh : Held k e x) : Held k e (xscan n x) := by
  obtain ⟨q, hp, hph, h1, h2, h3, h4⟩ := hh
  have hpk := h.pk k hk
  rw [hp] at hpk
  obtain ⟨_, _, hpk⟩ := hpk
  have hv : lk x.s.vs (k + 1) = q.seen + 1 ∧ 0 ≤ q.seen := by
    rcases hpk with ⟨c, _⟩ | ⟨c, _⟩ | ⟨_, c1, c2, _⟩
    · rw [hph] at c; cases c
    · rw [hph] at c; cases c
    · exact ⟨c1, c2⟩
  rcases xscan_cases h hm with ⟨a, ha, hq, hc, e'⟩ | ⟨a, ha, hq, hc, e'⟩ | ⟨ha, e'⟩
  · rw [e']
    exact ⟨q, hp, hph, h1, h2, h3, fun _ q' hq' => (by cases hq')⟩
  · rw [e']
    refine ⟨q, hp, hph, h1, h2, h3, fun hne q' hq' => ?_⟩
    have hne' : x.now = e + 1 := hne
    have hle := getD_at (n := n) (h4 hne')
    rw [← hq] at hle
    have : a ≠ k := fun e2 => by
      subst e2
      exact hc ⟨by omega, by omega⟩
    injection hq' with hq'
    subst hq'
    show a + 1 ≤ k
    omega
  · have hne : ¬ x.now = e + 1 := fun hne => by
      have hle := getD_at (n := n) (h4 hne)
      omega
    have hz : lk (x.s.store 15 0 (x.now + 1)).vs 0 = x.now + 1 := lk_set _ (by have := h.vl; omega)
    rw [e']
    refine ⟨q, hp, hph, h1, ?_, ?_, fun _ q' hq' => (by cases hq')⟩
    · show e ≤ lk (x.s.store 15 0 (x.now + 1)).vs 0
      rw [hz]; omega
    · show lk (x.s.store 15 0 (x.now + 1)).vs 0 ≤ e + 1
      rw [hz]; omega
theorem ginv_scan (h : GInv n m x) (hm : m < 1000000) : GInv n (m + 1) (xscan n x) := by
  have hE := einv_scan h.toEInv hm
  rcases xscan_cases h.toEInv hm with ⟨a, ha, hq, hc, e'⟩ | ⟨a, ha, hq, hc, e'⟩ | ⟨ha, e'⟩
  · have hold : (xscan n x).old = x.old := by rw [e']
    have hfn : (xscan n x).fine = x.fine := by rw [e']
    exact ⟨hE, fun r hr k hk hs => held_scan h.toEInv hm hk (h.gr r (hold ▸ hr) k hk hs), hfn.trans h.fn⟩
  · have hold : (xscan n x).old = x.old := by rw [e']
    have hfn : (xscan n x).fine = x.fine := by rw [e']
    exact ⟨hE, fun r hr k hk hs => held_scan h.toEInv hm hk (h.gr r (hold ▸ hr) k hk hs), hfn.trans h.fn⟩
  · have hold : (xscan n x).old = markAll x.old (dueJ (x.now + 1)) := by rw [e']
    have hfn : (xscan n x).fine = (x.fine && okAll (x.now + 1) (dueJ (x.now + 1)) x.old) := by rw [e']
    refine ⟨hE, fun r hr k hk hs => ?_, ?_⟩
    · rw [hold] at hr
      obtain ⟨r0, h0, e1, e2, _⟩ := markAll_mem hr
      rw [e1]
      rw [e2] at hs
      exact held_scan h.toEInv hm hk (h.gr r0 h0 k hk hs)
    · rw [hfn, h.fn, Bool.true_and]
      unfold okAll
      rw [List.all_eq_true]
      intro r hr
      by_cases hj : inJ (dueJ (x.now + 1)) r
      · rw [if_pos hj]
        obtain ⟨o1, o2, o3, o4⟩ := h.ol r hr
        have he := dueJ_one (o4 hj.1) o3 hj.2
        unfold okR
        have hsl : r.sl.all (fun b => !b) = true := by
          rw [List.all_eq_true]
          intro b hb
          obtain ⟨k, hk, rfl⟩ := List.getElem_of_mem hb
          cases hbk : r.sl[k] with
          | false => rfl
          | true =>
            exfalso
            obtain ⟨q, hp, hph, h1, h2, h3, h4⟩ := h.gr r hr k (by omega) (by rw [List.getElem?_eq_getElem hk, hbk]; rfl)
            have hle := getD_at (n := n) (h4 (by omega))
            omega
        rw [hj.1, hsl, decide_eq_true (show r.ep + 2 ≤ x.now + 1 by omega)]
        rfl
      · rw [if_neg hj]
end
end Go.Proofs.Ytokcodeeaneeaaa
