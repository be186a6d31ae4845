/- Runs of an epoch: their memory. -/
import Derived.Test.YtokcodeeaneeaaaEgLawB
import Derived.Test.YtokcodeeaneeaaaEpD
import Derived.Test.YtokcodeeaneeaaaLimC
import Derived.Test.YtokcodeeaneeaaaENewA
namespace Go.Proofs.Ytokcodeeaneeaaa
open Go.RowKit
set_option linter.unusedVariables false
set_option linter.unusedSimpArgs false
set_option linter.unusedSectionVars false

/-- A pin and its block. -/
abbrev Gp := Option (Nat × Pn)
def gbOf (gp : List Gp) : List (Option Nat) := gp.map (Option.map Prod.fst)
def gqOf (gp : List Gp) : List (Option Pn) := gp.map (Option.map Prod.snd)
def gpR (qb : Nat) : Gp → Res
  | some (g, q) => blkR g 117 (pnCells qb g q)
  | none => pureR True
/-- The last scan and its block. -/
abbrev Gs := Option (Nat × Sn)
def gsV (gs : Gs) : Value := pinV (gs.map Prod.fst)
def gsLive : Gs → Gs
  | some (g, q) => if q.ph = 0 then none else some (g, q)
  | none => none
def gsR (qb : Nat) : Gs → Res
  | some (g, q) => blkR g 124 (snCells qb g q)
  | none => pureR True
/-- What was retired, and the blocks of its slots. -/
def boolA (l : List Bool) : Array Value := (l.map Value.bool).toArray
def goR (y : Nat × Rt) : Res := blkR y.1 4 (boolA y.2.sl)
def goCells (n : Nat) (y : Nat × Rt) : List Value := [.int .u64 y.2.ep, .slice (some ⟨y.1, 0, none⟩) n n, .bool y.2.due]
def goV (n : Nat) (go : List (Nat × Rt)) : List Value := (go.map (goCells n)).flatten
def epochR (B p cb qb : Nat) (lv : Value) (s : BS) (f : Ed) (pins sc : Value) : Res where
  holds w := EpochM B w p cb qb lv s f pins sc
  foot k := FP p cb lv k ∨ k = qb
  stable h c hn := h.ch c (hn _ (.inl (.inl rfl))) (hn _ (.inl (.inr (.inl rfl)))) (fun k hk => hn k (.inl (.inr (.inr hk)))) (hn _ (.inr rfl))
  lt h k hk := by
    rcases hk with (rfl | rfl | hk) | rfl
    · exact h.b.hp.lt
    · exact h.b.hc.lt
    · exact (h.b.hl.lt k hk).2
    · exact h.fd.lt
def pinsV (pb n : Nat) : Value := .slice (some ⟨pb, 0, none⟩) n n
def egCells (p qb lb pr n : Nat) (rsc ov : Value) (fine : Bool) : Array Value := #[.pointer (some ⟨p, 0, none⟩), .pointer (some ⟨qb, 0, none⟩), .pointer (some ⟨lb, 0, none⟩), .slice (some ⟨pr, 0, none⟩) n n, rsc, ov, .bool fine]
/-- The things of a run. -/
def egL (B p cb qb pb pr X lb n : Nat) (lv ov v0 v1 v2 : Value) (lc : Array Value) (s : BS) (fine : Bool) (ps ps' : List (Option Nat)) (sc rsc : Value) (scR : Res) (o0 o1 o2 : List Int) (om : Nat) (orow : List Value) (L9 Lo : List Res) : List Res :=
  epochR B p cb qb lv s (edf n) (pinsV pb n) sc :: blkR pb 45 (pinsA ps) :: blkR pr 45 (pinsA ps') :: blkR X 81 (egCells p qb lb pr n rsc ov fine) :: blkR lb 133 lc ::
    rowR B 92 1 o0.length v0 (hvs o0) :: rowR B 92 1 o1.length v1 (hvs o1) :: rowR B 92 1 o2.length v2 (hvs o2) :: rowR B 86 3 om ov orow :: scR :: (L9 ++ Lo)

/-- The memory of a run, and what is known of it. -/
structure RunG (rp : List (Option Nat)) (B p cb qb pb pr X lb n M : Nat) (lv ov v0 v1 v2 : Value) (x : Xr) (gp : List Gp) (gs : Gs) (go : List (Nat × Rt)) (w0 w : World) : Prop where
  mem : Mem B w0 (egL B p cb qb pb pr X lb n lv ov v0 v1 v2 (lbCells v0 v1 v2) x.s x.fine (gbOf gp) rp (gsV gs) (gsV (gsLive gs)) (gsR qb gs) (lim x.old 0 0) (lim x.old 0 1) (lim x.old 0 2) go.length (goV n go) (gp.map (gpR qb)) (go.map goR)) w
  ps : x.ps = gqOf gp
  sc : x.sc = (gsLive gs).map Prod.snd
  old : x.old = go.map Prod.snd
  inv : EInv n M x
  om : go.length ≤ M
  n5 : n ≤ 5
  hM : M ≤ 200000

section
variable {rp : List (Option Nat)} {B p cb qb pb pr X lb n M k : Nat} {lv ov v0 v1 v2 : Value} {lc : Array Value} {s : BS} {fine : Bool} {ps ps' : List (Option Nat)} {sc rsc : Value} {scR r : Res} {o0 o1 o2 : List Int} {om : Nat} {orow : List Value} {L9 Lo : List Res} {x : Xr} {gp : List Gp} {gs : Gs} {go : List (Nat × Rt)} {w0 w w' : World}
theorem egL_at9 (h : L9[k]? = some r) : (egL B p cb qb pb pr X lb n lv ov v0 v1 v2 lc s fine ps ps' sc rsc scR o0 o1 o2 om orow L9 Lo)[10 + k]? = some r := by
  rw [Nat.add_comm]
  simp only [egL, List.getElem?_cons_succ]
  rw [List.getElem?_append_left (List.getElem?_eq_some_iff.1 h).1]; exact h
theorem egL_atO (hl : L9.length = n) (h : Lo[k]? = some r) : (egL B p cb qb pb pr X lb n lv ov v0 v1 v2 lc s fine ps ps' sc rsc scR o0 o1 o2 om orow L9 Lo)[10 + n + k]? = some r := by
  rw [show 10 + n + k = (n + k) + 10 by omega]
  simp only [egL, List.getElem?_cons_succ]
  rw [List.getElem?_append_right (by omega), hl, Nat.add_sub_cancel_left]; exact h
theorem egL_set9 (h : k < L9.length) (r : Res) : (egL B p cb qb pb pr X lb n lv ov v0 v1 v2 lc s fine ps ps' sc rsc scR o0 o1 o2 om orow L9 Lo).set (10 + k) r = egL B p cb qb pb pr X lb n lv ov v0 v1 v2 lc s fine ps ps' sc rsc scR o0 o1 o2 om orow (L9.set k r) Lo := by
  rw [Nat.add_comm]
  simp only [egL, List.set_cons_succ]
  rw [List.set_append_left _ _ h]
theorem egL_setO (hl : L9.length = n) (r : Res) : (egL B p cb qb pb pr X lb n lv ov v0 v1 v2 lc s fine ps ps' sc rsc scR o0 o1 o2 om orow L9 Lo).set (10 + n + k) r = egL B p cb qb pb pr X lb n lv ov v0 v1 v2 lc s fine ps ps' sc rsc scR o0 o1 o2 om orow L9 (Lo.set k r) := by
  rw [show 10 + n + k = (n + k) + 10 by omega]
  simp only [egL, List.set_cons_succ]
  rw [List.set_append_right _ _ (by omega), hl, Nat.add_sub_cancel_left]
theorem egL_add (r : Res) : egL B p cb qb pb pr X lb n lv ov v0 v1 v2 lc s fine ps ps' sc rsc scR o0 o1 o2 om orow L9 Lo ++ [r] = egL B p cb qb pb pr X lb n lv ov v0 v1 v2 lc s fine ps ps' sc rsc scR o0 o1 o2 om orow L9 (Lo ++ [r]) := by
  simp only [egL, List.cons_append, List.append_assoc]
theorem RunG.keep (h : RunG rp B p cb qb pb pr X lb n M lv ov v0 v1 v2 x gp gs go w0 w) (c : Ch (fun _ => False) w w') : RunG rp B p cb qb pb pr X lb n M lv ov v0 v1 v2 x gp gs go w0 w' := { h with mem := h.mem.keep c }
theorem RunG.drewN (h : RunG rp B p cb qb pb pr X lb n M lv ov v0 v1 v2 x gp gs go w0 w) (m : Nat) : RunG rp B p cb qb pb pr X lb n M lv ov v0 v1 v2 x gp gs go w0 (w.drewN m) := h.keep ((Ch.refl _ w).drewN m)
theorem RunG.le (h : RunG rp B p cb qb pb pr X lb n M lv ov v0 v1 v2 x gp gs go w0 w) {M' : Nat} (hM : M ≤ M') (h2 : M' ≤ 200000) : RunG rp B p cb qb pb pr X lb n M' lv ov v0 v1 v2 x gp gs go w0 w :=
  { h with inv := h.inv.le hM, om := Nat.le_trans h.om hM, hM := h2 }
theorem RunG.ep (h : RunG rp B p cb qb pb pr X lb n M lv ov v0 v1 v2 x gp gs go w0 w) : EpochM B w p cb qb lv x.s (edf n) (pinsV pb n) (gsV gs) := h.mem.each 0 _ rfl
theorem RunG.gl (h : RunG rp B p cb qb pb pr X lb n M lv ov v0 v1 v2 x gp gs go w0 w) : gp.length = n := by
  have := h.inv.pl
  rw [h.ps] at this
  simpa [gqOf] using this
theorem RunG.pin_at (h : RunG rp B p cb qb pb pr X lb n M lv ov v0 v1 v2 x gp gs go w0 w) {o : Gp} (hk : gp[k]? = some o) : x.pin k = o.map Prod.snd := by
  unfold Xr.pin
  rw [h.ps]
  simp [gqOf, hk]
theorem RunG.pinB (h : RunG rp B p cb qb pb pr X lb n M lv ov v0 v1 v2 x gp gs go w0 w) {g : Nat} {q : Pn} (hk : gp[k]? = some (some (g, q))) : Blk w g 117 (pnCells qb g q) :=
  h.mem.each (10 + k) _ (egL_at9 (r := gpR qb (some (g, q))) (by simp [hk]))
theorem RunG.pinQ (h : RunG rp B p cb qb pb pr X lb n M lv ov v0 v1 v2 x gp gs go w0 w) {g : Nat} {q : Pn} (hk : gp[k]? = some (some (g, q))) : q.t = k ∧ q.slot = k ∧ (q.ph = 0 ∨ q.ph = 9 ∨ q.ph = 10) := by
  have hkl : k < n := by have := h.gl; have := (List.getElem?_eq_some_iff.1 hk).1; omega
  have t := h.inv.pk k hkl
  rw [h.pin_at hk] at t
  obtain ⟨h1, h2, h3⟩ := t
  refine ⟨h1, h2, ?_⟩
  rcases h3 with ⟨e, _⟩ | ⟨e, _⟩ | ⟨e, _⟩
  · exact .inr (.inl e)
  · exact .inr (.inr e)
  · exact .inl e
theorem gb_at {gp : List Gp} {o : Gp} (h : gp[k]? = some o) : (gbOf gp)[k]? = some (o.map Prod.fst) := by simp [gbOf, h]
theorem gb_set (gp : List Gp) (k : Nat) (o : Gp) : gbOf (gp.set k o) = (gbOf gp).set k (o.map Prod.fst) := by simp [gbOf, List.map_set]
theorem gq_set (gp : List Gp) (k : Nat) (o : Gp) : gqOf (gp.set k o) = (gqOf gp).set k (o.map Prod.snd) := by simp [gqOf, List.map_set]
theorem ck_ok {t k : Nat} (ht : t < 16) (hk : k < n) : ckerr (edf n) t k = 0 := by
  unfold ckerr edf
  rw [if_neg (by omega), if_neg (by show ¬ ((k : Int) < 0 ∨ ((n : Nat) : Int) ≤ k); omega)]

/-- An element of what was retired. -/
theorem goV_at {go : List (Nat × Rt)} {y : Nat × Rt} (hk : go[k]? = some y) {j : Nat} {u : Value} (hu : (goCells n y)[j]? = some u) : (goV n go)[k * 3 + j]? = some u := by
  have hj : j < 3 := (List.getElem?_eq_some_iff.1 hu).1
  induction go generalizing k with
  | nil => simp at hk
  | cons z go ih =>
    cases k with
    | zero =>
      simp at hk
      subst hk
      show ((goCells n z) ++ _)[0 * 3 + j]? = _
      rw [Nat.zero_mul, Nat.zero_add, List.getElem?_append_left (show j < (goCells n z).length from hj)]
      exact hu
    | succ k =>
      simp at hk
      show ((goCells n z) ++ goV n go)[(k + 1) * 3 + j]? = _
      rw [List.getElem?_append_right (by show 3 ≤ _; omega), show (k + 1) * 3 + j - (goCells n z).length = k * 3 + j by show (k + 1) * 3 + j - 3 = _; omega]
      exact ih hk
theorem goV_app (go : List (Nat × Rt)) (y : Nat × Rt) : goV n (go ++ [y]) = goV n go ++ goCells n y := by simp [goV]
theorem goV_set2 {go : List (Nat × Rt)} {y : Nat × Rt} (hk : go[k]? = some y) (b : Bool) : (goV n go).set (k * 3 + 2) (.bool b) = goV n (go.set k (y.1, { y.2 with due := b })) := by
  induction go generalizing k with
  | nil => simp at hk
  | cons z go ih =>
    cases k with
    | zero =>
      simp at hk
      subst hk
      show ((goCells n z) ++ goV n go).set (0 * 3 + 2) _ = goCells n _ ++ goV n go
      rw [Nat.zero_mul, Nat.zero_add, List.set_append_left _ _ (by show 2 < 3; omega)]
      rfl
    | succ k =>
      simp at hk
      show ((goCells n z) ++ goV n go).set ((k + 1) * 3 + 2) _ = goCells n z ++ goV n (go.set k _)
      rw [List.set_append_right _ _ (by show 3 ≤ _; omega), show (k + 1) * 3 + 2 - (goCells n z).length = k * 3 + 2 by show (k + 1) * 3 + 2 - 3 = _; omega, ih hk]
theorem own_at3 {e m : Nat} {v : Value} {xs : List Value} {j : Nat} {u : Value} (h : w.ownsRow B e 3 v m xs) (hu : xs[j]? = some u) : ∃ g cap, v = .slice (some ⟨g, 0, none⟩) m cap ∧ m ≤ cap ∧ w.cell? ⟨g, j, none⟩ = some u ∧ w.frozen? ⟨g, j, none⟩ = false := by
  have hj : j < m * 3 := by
    have := (List.getElem?_eq_some_iff.1 hu).1
    have := h.1
    omega
  obtain ⟨g, cap, hv, h1, h2, h3, h4⟩ := own_form h (by omega)
  subst hv
  exact ⟨g, cap, rfl, h1, (h.cellAt j hj).trans hu, h.frozenAt j⟩
end
end Go.Proofs.Ytokcodeeaneeaaa
