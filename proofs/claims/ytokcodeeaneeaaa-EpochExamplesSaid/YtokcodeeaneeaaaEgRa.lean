/- Runs of an epoch: what each event does to the memory. -/
import Derived.Test.YtokcodeeaneeaaaEgS
namespace Go.Proofs.Ytokcodeeaneeaaa
open Go.RowKit
set_option linter.unusedVariables false
set_option linter.unusedSimpArgs false
set_option linter.unusedSectionVars false

section
variable {rp rp' : List (Option Nat)} {B p cb qb pb pr X lb n M k : Nat} {lv ov v0 v1 v2 : Value} {x : Xr} {gp : List Gp} {gs : Gs} {go : List (Nat × Rt)} {w0 w : World}
theorem set_same {α : Type} {l : List α} {k : Nat} {a : α} (h : l[k]? = some a) : l.set k a = l := by
  apply List.ext_getElem?
  intro j
  rw [List.getElem?_set]
  split
  · rename_i e
    subst e
    split
    · exact h.symm
    · rename_i hn
      have := (List.getElem?_eq_some_iff.1 h).1
      exact absurd this hn
  · rfl
theorem RunG.gbl (h : RunG rp B p cb qb pb pr X lb n M lv ov v0 v1 v2 x gp gs go w0 w) : (gbOf gp).length = n := by
  have := h.gl
  simpa [gbOf] using this
/-- A pin was begun. -/
theorem RunG.pbeg (h : RunG rp B p cb qb pb pr X lb n M lv ov v0 v1 v2 x gp gs go w0 w) (hk : k < n) {e : Ending} {w' : World} (hb : PnBegun B p cb qb pb lv x.s (edf n) (gsV gs) (gbOf gp) k k w e w') :
    ∃ g, e = .returned (.tuple #[.pointer (some ⟨g, 0, none⟩), .int .i64 0]) ∧ Mem B w0 (egL B p cb qb pb pr X lb n lv ov v0 v1 v2 (lbCells v0 v1 v2) x.s x.fine ((gbOf gp).set k (some g)) rp (gsV gs) (gsV (gsLive gs)) (gsR qb gs) (lim x.old 0 0) (lim x.old 0 1) (lim x.old 0 2) go.length (goV n go) ((gp.map (gpR qb)).set k (blkR g 117 (pnCells qb g (pn0 k)))) (go.map goR)) w' := by
  obtain ⟨g, he, hg, hp, c, hgs⟩ := hb
  refine ⟨g, he, ?_⟩
  have hl := h.gl
  obtain ⟨o, ho⟩ : ∃ o, gp[k]? = some o := ⟨_, List.getElem?_eq_getElem (by omega)⟩
  have t := h.mem.upd2 (i := 10 + k) (j := 1) (blkR g 117 (pnCells qb g (pn0 k))) (blkR pb 45 (pinsA ((gbOf gp).set k (some g)))) (egL_at9 (r := gpR qb o) (by simp [ho])) rfl (by omega) c (fun _ _ e => .inr e) hg hp (fun i hi => .inr (by rw [show i = g from hi]; exact hgs)) (fun i hi => hi)
  rw [egL_set9 (by simp; omega)] at t
  exact t
theorem RunG.pbeg2 (h : RunG rp B p cb qb pb pr X lb n M lv ov v0 v1 v2 x gp gs go w0 w) (hk : k < n) (hp : gp[k]? = some none) {g : Nat} {w' : World} (m : Mem B w0 (egL B p cb qb pb pr X lb n lv ov v0 v1 v2 (lbCells v0 v1 v2) x.s x.fine ((gbOf gp).set k (some g)) rp' (gsV gs) (gsV (gsLive gs)) (gsR qb gs) (lim x.old 0 0) (lim x.old 0 1) (lim x.old 0 2) go.length (goV n go) ((gp.map (gpR qb)).set k (blkR g 117 (pnCells qb g (pn0 k)))) (go.map goR)) w') :
    RunG rp' B p cb qb pb pr X lb n M lv ov v0 v1 v2 { x with ps := x.ps.set k (some (pn0 k)) } (gp.set k (some (g, pn0 k))) gs go w0 w' := by
  have hi := h.inv
  have hpl := hi.pl
  refine ⟨?_, by rw [gq_set, ← h.ps]; rfl, h.sc, h.old, ⟨hi.vl, hi.ll, hi.nw, by rw [List.length_set]; exact hpl, fun j hj => ?_, hi.sc, hi.ol⟩, h.om, h.n5, h.hM⟩
  · rw [gb_set, List.map_set]; exact m
  · show PinOk _ j ((x.ps.set k _)[j]?.getD none)
    rw [pin_set _ _ _ _ (by omega)]
    by_cases e : j = k
    · subst e
      rw [if_pos rfl]
      have t := hi.pk j hj
      rw [h.pin_at hp] at t
      exact ⟨rfl, rfl, .inl ⟨rfl, t⟩⟩
    · rw [if_neg e]; exact hi.pk j hj
theorem xpin_begun (hx : x.pin k = none) (hk : k < x.ps.length) : xpin n k { x with ps := x.ps.set k (some (pn0 k)) } = xpin n k x := by
  have e1 : ({ x with ps := x.ps.set k (some (pn0 k)) } : Xr).pin k = some (pn0 k) := by
    show (x.ps.set k _)[k]?.getD none = _
    rw [pin_set _ _ _ _ hk, if_pos rfl]
  unfold xpin
  rw [e1, hx]
  simp only [Option.getD_some, Option.getD_none, List.set_set]
  rfl
/-- A pin was stepped. -/
theorem RunG.pstepM (h : RunG rp B p cb qb pb pr X lb n M lv ov v0 v1 v2 x gp gs go w0 w) {g : Nat} {q q' : Pn} (hp : gp[k]? = some (some (g, q))) {s' : BS} {lv' : Value} {w' : World} (hE : EpochM B w' p cb qb lv' s' (edf n) (pinsV pb n) (gsV gs)) (hg : Blk w' g 117 (pnCells qb g q')) (c : Ch (fun b => FP p cb lv b ∨ b = g) w w') (hf : Fresh w lv lv') :
    Mem B w0 (egL B p cb qb pb pr X lb n lv' ov v0 v1 v2 (lbCells v0 v1 v2) s' x.fine (gbOf gp) rp (gsV gs) (gsV (gsLive gs)) (gsR qb gs) (lim x.old 0 0) (lim x.old 0 1) (lim x.old 0 2) go.length (goV n go) ((gp.map (gpR qb)).set k (blkR g 117 (pnCells qb g q'))) (go.map goR)) w' := by
  have hkl := (List.getElem?_eq_some_iff.1 hp).1
  have t := h.mem.upd2 (i := 0) (j := 10 + k) (epochR B p cb qb lv' s' (edf n) (pinsV pb n) (gsV gs)) (blkR g 117 (pnCells qb g q')) rfl (egL_at9 (r := blkR g 117 (pnCells qb g q)) (by simp [hp, gpR])) (by omega) c (fun k _ e => e.imp .inl id) hE hg (fun k hk => fp_newG hf hk) (fun k hk => hk)
  have e0 : (egL B p cb qb pb pr X lb n lv ov v0 v1 v2 (lbCells v0 v1 v2) x.s x.fine (gbOf gp) rp (gsV gs) (gsV (gsLive gs)) (gsR qb gs) (lim x.old 0 0) (lim x.old 0 1) (lim x.old 0 2) go.length (goV n go) (gp.map (gpR qb)) (go.map goR)).set 0 (epochR B p cb qb lv' s' (edf n) (pinsV pb n) (gsV gs)) = egL B p cb qb pb pr X lb n lv' ov v0 v1 v2 (lbCells v0 v1 v2) s' x.fine (gbOf gp) rp (gsV gs) (gsV (gsLive gs)) (gsR qb gs) (lim x.old 0 0) (lim x.old 0 1) (lim x.old 0 2) go.length (goV n go) (gp.map (gpR qb)) (go.map goR) := rfl
  rw [e0, egL_set9 (by simp; omega)] at t
  exact t
theorem RunG.pstep2 (h : RunG rp B p cb qb pb pr X lb n M lv ov v0 v1 v2 x gp gs go w0 w) (hM : M + 1 ≤ 200000) {g : Nat} {q : Pn} (hp : gp[k]? = some (some (g, q))) (hq : q.ph ≠ 0) {lv' : Value} {w' : World} (m : Mem B w0 (egL B p cb qb pb pr X lb n lv' ov v0 v1 v2 (lbCells v0 v1 v2) (pnstep x.s (edf n) q).1 x.fine (gbOf gp) rp (gsV gs) (gsV (gsLive gs)) (gsR qb gs) (lim x.old 0 0) (lim x.old 0 1) (lim x.old 0 2) go.length (goV n go) ((gp.map (gpR qb)).set k (blkR g 117 (pnCells qb g (pnstep x.s (edf n) q).2))) (go.map goR)) w') :
    RunG rp B p cb qb pb pr X lb n (M + 1) lv' ov v0 v1 v2 (xpin n k x) (gp.set k (some (g, (pnstep x.s (edf n) q).2))) gs go w0 w' := by
  have hkl := (List.getElem?_eq_some_iff.1 hp).1
  have hl := h.gl
  have hi := einv_pin h.inv (by omega) (show k < n by omega)
  have e : xpin n k x = { x with s := (pnstep x.s (edf n) q).1, ps := x.ps.set k (some (pnstep x.s (edf n) q).2) } := by
    unfold xpin
    rw [h.pin_at hp]
    simp only [Option.map_some, Option.getD_some]
    rw [if_neg hq]
  rw [e] at hi ⊢
  refine ⟨?_, by rw [gq_set, ← h.ps]; rfl, h.sc, h.old, hi, Nat.le_succ_of_le h.om, h.n5, hM⟩
  rw [gb_set, List.map_set]
  rw [show (gbOf gp).set k ((some (g, (pnstep x.s (edf n) q).2)).map Prod.fst) = gbOf gp from set_same (show (gbOf gp)[k]? = some (some g) from gb_at hp)]
  exact m
theorem gb_step {g : Nat} {q : Pn} (hp : gp[k]? = some (some (g, q))) (q' : Pn) : gbOf (gp.set k (some (g, q'))) = gbOf gp := by
  rw [gb_set]
  exact set_same (show (gbOf gp)[k]? = some (some g) from gb_at hp)
theorem RunG.pstep3 (h : RunG (gbOf gp) B p cb qb pb pr X lb n M lv ov v0 v1 v2 x gp gs go w0 w) (hM : M + 1 ≤ 200000) {g : Nat} {q : Pn} (hp : gp[k]? = some (some (g, q))) (hq : q.ph ≠ 0) {lv' : Value} {w' : World} (m : Mem B w0 (egL B p cb qb pb pr X lb n lv' ov v0 v1 v2 (lbCells v0 v1 v2) (pnstep x.s (edf n) q).1 x.fine (gbOf gp) (gbOf gp) (gsV gs) (gsV (gsLive gs)) (gsR qb gs) (lim x.old 0 0) (lim x.old 0 1) (lim x.old 0 2) go.length (goV n go) ((gp.map (gpR qb)).set k (blkR g 117 (pnCells qb g (pnstep x.s (edf n) q).2))) (go.map goR)) w') :
    RunG (gbOf (gp.set k (some (g, (pnstep x.s (edf n) q).2)))) B p cb qb pb pr X lb n (M + 1) lv' ov v0 v1 v2 (xpin n k x) (gp.set k (some (g, (pnstep x.s (edf n) q).2))) gs go w0 w' := by
  rw [gb_step hp]
  exact h.pstep2 hM hp hq m
theorem xpin_idle (h : RunG rp B p cb qb pb pr X lb n M lv ov v0 v1 v2 x gp gs go w0 w) {g : Nat} {q : Pn} (hp : gp[k]? = some (some (g, q))) (hq : q.ph = 0) : xpin n k x = x := by
  unfold xpin
  rw [h.pin_at hp]
  simp only [Option.map_some, Option.getD_some]
  rw [if_pos hq]
theorem pnstep_ll {s : BS} {q : Pn} (h : q.ph = 9 ∨ q.ph = 10) : (pnstep s (edf n) q).1.lg.length = s.lg.length + 1 := by
  unfold pnstep
  rcases h with h | h
  · rw [if_pos h]; exact load_ll _ _ _
  · rw [if_neg (by rw [h]; decide), if_pos h]; exact store_ll _ _ _ _
/-- A slot was cleared. -/
theorem RunG.unpinM (h : RunG rp B p cb qb pb pr X lb n M lv ov v0 v1 v2 x gp gs go w0 w) (hM : M + 1 ≤ 200000) (hk : k < n) {lv' : Value} {w' : World} (hE : EpochM B w' p cb qb lv' (x.s.store k ((edf n).slot k : Nat) 0) (edf n) (pinsV pb n) (gsV gs)) (hp : Blk w' pb 45 (pinsA ((gbOf gp).set k none))) (c : Ch (fun b => FP p cb lv b ∨ b = pb) w w') (hf : Fresh w lv lv') :
    Mem B w0 (egL B p cb qb pb pr X lb n lv' ov v0 v1 v2 (lbCells v0 v1 v2) (x.s.store k ((edf n).slot k : Nat) 0) x.fine ((gbOf gp).set k none) rp (gsV gs) (gsV (gsLive gs)) (gsR qb gs) (lim x.old 0 0) (lim x.old 0 1) (lim x.old 0 2) go.length (goV n go) (gp.map (gpR qb)) (go.map goR)) w' :=
  h.mem.upd2 (i := 0) (j := 1) (epochR B p cb qb lv' _ (edf n) (pinsV pb n) (gsV gs)) (blkR pb 45 (pinsA ((gbOf gp).set k none))) rfl rfl (by decide) c (fun k _ e => e.imp .inl id) hE hp (fun k hk => fp_newG hf hk) (fun k hk => hk)
theorem RunG.unpin2 (h : RunG rp B p cb qb pb pr X lb n M lv ov v0 v1 v2 x gp gs go w0 w) (hM : M + 1 ≤ 200000) (hk : k < n) {lv' : Value} {w' : World} (m : Mem B w0 (egL B p cb qb pb pr X lb n lv' ov v0 v1 v2 (lbCells v0 v1 v2) (x.s.store k ((edf n).slot k : Nat) 0) x.fine ((gbOf gp).set k none) rp' (gsV gs) (gsV (gsLive gs)) (gsR qb gs) (lim x.old 0 0) (lim x.old 0 1) (lim x.old 0 2) go.length (goV n go) (gp.map (gpR qb)) (go.map goR)) w') :
    RunG rp' B p cb qb pb pr X lb n (M + 1) lv' ov v0 v1 v2 (xunpin0 n k x) (gp.set k none) gs go w0 w' := by
  have hl := h.gl
  refine ⟨?_, by rw [gq_set, ← h.ps]; rfl, h.sc, h.old, einv_unpin0 h.inv hk, Nat.le_succ_of_le h.om, h.n5, hM⟩
  obtain ⟨o, ho⟩ : ∃ o, gp[k]? = some o := ⟨_, List.getElem?_eq_getElem (by omega)⟩
  have t := m.upd (i := 10 + k) (fp := fun _ => False) (pureR True) (egL_at9 (r := gpR qb o) (by simp [ho])) (Ch.refl _ _) (fun _ _ e => e.elim) trivial (fun _ e => e.elim)
  rw [egL_set9 (by simp; omega)] at t
  rw [gb_set, List.map_set]
  exact t

/-- What was retired, a slot being cleared. -/
def rsY (k : Nat) (y : Nat × Rt) : Nat × Rt := (y.1, { y.2 with sl := y.2.sl.set k false })
def goJ (k j : Nat) (go : List (Nat × Rt)) : List (Nat × Rt) := (go.take j).map (rsY k) ++ go.drop j
theorem goJ_zero (k : Nat) (go : List (Nat × Rt)) : goJ k 0 go = go := by simp [goJ]
theorem goJ_all (k : Nat) (go : List (Nat × Rt)) : goJ k go.length go = go.map (rsY k) := by simp [goJ]
theorem goJ_at {j : Nat} {y : Nat × Rt} (h : go[j]? = some y) : (goJ k j go)[j]? = some y := by
  have hl := (List.getElem?_eq_some_iff.1 h).1
  unfold goJ
  rw [List.getElem?_append_right (by simp; omega)]
  simp only [List.length_map, List.length_take, Nat.min_eq_left (Nat.le_of_lt hl), Nat.sub_self, List.getElem?_drop, Nat.add_zero]
  exact h
theorem goJ_succ {j : Nat} {y : Nat × Rt} (h : go[j]? = some y) : goJ k (j + 1) go = (goJ k j go).set j (rsY k y) := by
  have hl := (List.getElem?_eq_some_iff.1 h).1
  unfold goJ
  rw [List.set_append_right _ _ (by simp; omega)]
  simp only [List.length_map, List.length_take, Nat.min_eq_left (Nat.le_of_lt hl), Nat.sub_self]
  rw [List.take_add_one, h, List.map_append, List.append_assoc]
  congr 1
  have e : go.drop j = y :: go.drop (j + 1) := by
    rw [← List.getElem_cons_drop hl]
    have := List.getElem?_eq_some_iff.1 h
    rw [this.2]
  rw [e]; rfl
theorem goV_rs (n k : Nat) (go : List (Nat × Rt)) : goV n (go.map (rsY k)) = goV n go := by
  unfold goV
  rw [List.map_map]; rfl
theorem lim_rs (k : Nat) (o : List Rt) (i : Nat) (j : Int) : lim (reset k o) i j = lim o i j := lim_map (fun r => { r with sl := r.sl.set k false }) j (fun r => Iff.rfl) o i
theorem boolA_set (l : List Bool) (k : Nat) (b : Bool) : (boolA l).setIfInBounds k (.bool b) = boolA (l.set k b) := by simp [boolA, List.map_set]
theorem Mem.resetJ {s : BS} {fine : Bool} {ps ps' : List (Option Nat)} {sc rsc : Value} {scR : Res} {o0 o1 o2 : List Int} {om : Nat} {orow : List Value} {L9 : List Res} {lc : Array Value} (hL : L9.length = n) {j : Nat} {y : Nat × Rt} (hy : go[j]? = some y) (h : Mem B w0 (egL B p cb qb pb pr X lb n lv ov v0 v1 v2 lc s fine ps ps' sc rsc scR o0 o1 o2 om orow L9 ((goJ k j go).map goR)) w) :
    Mem B w0 (egL B p cb qb pb pr X lb n lv ov v0 v1 v2 lc s fine ps ps' sc rsc scR o0 o1 o2 om orow L9 ((goJ k (j + 1) go).map goR)) (w.setCell ⟨y.1, k, none⟩ (.bool false)) := by
  have t := h.put (i := 10 + n + j) (egL_atO (r := goR y) hL (by simp [goJ_at hy])) k (.bool false)
  rw [boolA_set, egL_setO hL] at t
  rw [goJ_succ hy, List.map_set]
  exact t
def xclr (k : Nat) (x : Xr) : Xr := { x with old := Go.Proofs.Ytokcodeeaneeaaa.reset k x.old }
theorem RunG.reset (h : RunG rp B p cb qb pb pr X lb n M lv ov v0 v1 v2 x gp gs go w0 w) (hi : EInv n M (xclr k x)) {w' : World} (m : Mem B w0 (egL B p cb qb pb pr X lb n lv ov v0 v1 v2 (lbCells v0 v1 v2) x.s x.fine (gbOf gp) rp (gsV gs) (gsV (gsLive gs)) (gsR qb gs) (lim x.old 0 0) (lim x.old 0 1) (lim x.old 0 2) go.length (goV n go) (gp.map (gpR qb)) ((goJ k go.length go).map goR)) w') :
    RunG rp B p cb qb pb pr X lb n M lv ov v0 v1 v2 (xclr k x) gp gs (go.map (rsY k)) w0 w' := by
  refine ⟨?_, h.ps, h.sc, ?_, hi, by rw [List.length_map]; exact h.om, h.n5, h.hM⟩
  · rw [goJ_all] at m
    rw [goV_rs, List.length_map, show (xclr k x).old = Go.Proofs.Ytokcodeeaneeaaa.reset k x.old from rfl, lim_rs, lim_rs, lim_rs]
    exact m
  · show Go.Proofs.Ytokcodeeaneeaaa.reset k x.old = _
    have e : x.old = go.map Prod.snd := h.old
    rw [e]
    unfold Go.Proofs.Ytokcodeeaneeaaa.reset
    rw [List.map_map, List.map_map]; rfl

/-- A thing may be left out. -/
theorem Mem.drop1 {L : List Res} {r : Res} (h : Mem B w0 (L ++ [r]) w) : Mem B w0 L w := by
  have up : ∀ (i : Nat) (s : Res), L[i]? = some s → (L ++ [r])[i]? = some s := fun i s hi => by
    rw [List.getElem?_append_left (List.getElem?_eq_some_iff.1 hi).1]; exact hi
  exact ⟨fun i s hi => h.each i s (up i s hi), fun i j s t hi hj => h.apart i j s t (up i s hi) (up j t hj), fun i s hi => h.low i s (up i s hi), h.bel, h.bz⟩
/-- What was retired is kept. -/
theorem RunG.ret (h : RunG rp B p cb qb pb pr X lb n M lv ov v0 v1 v2 x gp gs go w0 w) (hM : M + 1 ≤ 200000) {ov' : Value} {ms : Nat} {w1 w' : World} {L : List Int} (hL : L = [(go.length : Int) + 1])
    (m : Mem B w0 (egL B p cb qb pb pr X lb n lv ov' v0 v1 v2 (lbCells v0 v1 v2) x.s x.fine (gbOf gp) rp (gsV gs) (gsV (gsLive gs)) (gsR qb gs) (lim x.old 0 0) (lim x.old 0 1) (lim x.old 0 2) (go.length + 1) (goV n (go ++ [(ms, (⟨x.now, x.ps.map isOn, false⟩ : Rt))])) (gp.map (gpR qb)) ((go ++ [(ms, (⟨x.now, x.ps.map isOn, false⟩ : Rt))]).map goR)) w1) (hr : RetOk B lb v0 v1 v2 (lim x.old 0 0) (lim x.old 0 1) (lim x.old 0 2) L x.now w1 w') :
    ∃ u0 u1 u2, RunG rp B p cb qb pb pr X lb n (M + 1) lv ov' u0 u1 u2 (xret x) gp gs (go ++ [(ms, (⟨x.now, x.ps.map isOn, false⟩ : Rt))]) w0 w' := by
  subst hL
  have hol : x.old.length = go.length := by rw [h.old, List.length_map]
  have hi := h.inv
  have hpl := hi.pl
  have hiv : EInv n (M + 1) (xret x) := by
    have hE := hi.le (Nat.le_succ M)
    refine ⟨hE.vl, hE.ll, hE.nw, hE.pl, hE.pk, hE.sc, fun r hr => ?_⟩
    rcases List.mem_append.1 hr with hr | hr
    · exact hi.ol r hr
    · rw [List.mem_singleton] at hr
      subst hr
      exact ⟨by simp [hpl], hi.nw.1, Int.le_refl _, fun _ => by show x.now ≤ x.now + 1; omega⟩
  have hold : (xret x).old = (go ++ [(ms, (⟨x.now, x.ps.map isOn, false⟩ : Rt))]).map Prod.snd := by
    show x.old ++ _ = _
    rw [h.old, List.map_append]; rfl
  have key : ∀ {u0 u1 u2 : Value}, Mem B w0 (egL B p cb qb pb pr X lb n lv ov' u0 u1 u2 (lbCells u0 u1 u2) x.s x.fine (gbOf gp) rp (gsV gs) (gsV (gsLive gs)) (gsR qb gs) (lim (xret x).old 0 0) (lim (xret x).old 0 1) (lim (xret x).old 0 2) (go.length + 1) (goV n (go ++ [(ms, (⟨x.now, x.ps.map isOn, false⟩ : Rt))])) (gp.map (gpR qb)) ((go ++ [(ms, (⟨x.now, x.ps.map isOn, false⟩ : Rt))]).map goR)) w' → RunG rp B p cb qb pb pr X lb n (M + 1) lv ov' u0 u1 u2 (xret x) gp gs (go ++ [(ms, (⟨x.now, x.ps.map isOn, false⟩ : Rt))]) w0 w' := fun m' =>
    ⟨by rw [List.length_append]; exact m', h.ps, h.sc, hold, hiv, by rw [List.length_append, List.length_singleton]; have := h.om; omega, h.n5, hM⟩
  have la : ∀ j : Int, lim (xret x).old 0 j = lim x.old 0 j ++ if x.now % 3 = j then [(go.length : Int) + 1] else [] := fun j => by
    show lim (x.old ++ [_]) 0 j = _
    rw [lim_app, hol, Nat.zero_add]
    by_cases e : x.now % 3 = j
    · rw [if_pos e, if_pos (show inJ j (⟨x.now, x.ps.map isOn, false⟩ : Rt) from ⟨rfl, e⟩)]
    · rw [if_neg e, if_neg (fun h => e h.2)]
  obtain ⟨j, v, v', o, hj, hje, hv, ho, hb, hm, c, hf⟩ := hr
  have up : ∀ (i : Nat), i < 10 → i ≠ 4 → (egL B p cb qb pb pr X lb n lv ov' v0 v1 v2 (lbCells v0 v1 v2) x.s x.fine (gbOf gp) rp (gsV gs) (gsV (gsLive gs)) (gsR qb gs) (lim x.old 0 0) (lim x.old 0 1) (lim x.old 0 2) (go.length + 1) (goV n (go ++ [(ms, (⟨x.now, x.ps.map isOn, false⟩ : Rt))])) (gp.map (gpR qb)) ((go ++ [(ms, (⟨x.now, x.ps.map isOn, false⟩ : Rt))]).map goR))[i]? = some (rowR B 92 1 o.length v (hvs o)) →
      Mem B w0 (((egL B p cb qb pb pr X lb n lv ov' v0 v1 v2 (lbCells v0 v1 v2) x.s x.fine (gbOf gp) rp (gsV gs) (gsV (gsLive gs)) (gsR qb gs) (lim x.old 0 0) (lim x.old 0 1) (lim x.old 0 2) (go.length + 1) (goV n (go ++ [(ms, (⟨x.now, x.ps.map isOn, false⟩ : Rt))])) (gp.map (gpR qb)) ((go ++ [(ms, (⟨x.now, x.ps.map isOn, false⟩ : Rt))]).map goR)).set i (rowR B 92 1 (o ++ [(go.length : Int) + 1]).length v' (hvs (o ++ [(go.length : Int) + 1])))).set 4 (blkR lb 133 ((lbCells v0 v1 v2).setIfInBounds j v'))) w' := fun i hi h4 hget =>
    m.upd2 (i := i) (j := 4) (rowR B 92 1 (o ++ [(go.length : Int) + 1]).length v' (hvs (o ++ [(go.length : Int) + 1]))) (blkR lb 133 ((lbCells v0 v1 v2).setIfInBounds j v')) hget rfl h4 c (fun k _ e => by rcases e with e | e; exact .inr e; exact .inl e) hm hb (fun k hk => by
      rcases hf with e | e
      · exact .inl (by show v.ownBlock = some k; rw [← e]; exact hk)
      · exact .inr (e k hk)) (fun k hk => hk)
  match j, hj, up with
  | 0, _, up =>
    cases hv; cases ho
    refine ⟨v', v1, v2, key ?_⟩
    rw [la, la, la, if_pos (show x.now % 3 = 0 by rw [← hje]; rfl), if_neg (show ¬ x.now % 3 = 1 by rw [← hje]; decide), if_neg (show ¬ x.now % 3 = 2 by rw [← hje]; decide), List.append_nil, List.append_nil]
    exact up 5 (by decide) (by decide) rfl
  | 1, _, up =>
    cases hv; cases ho
    refine ⟨v0, v', v2, key ?_⟩
    rw [la, la, la, if_neg (show ¬ x.now % 3 = 0 by rw [← hje]; decide), if_pos (show x.now % 3 = 1 by rw [← hje]; rfl), if_neg (show ¬ x.now % 3 = 2 by rw [← hje]; decide), List.append_nil, List.append_nil]
    exact up 6 (by decide) (by decide) rfl
  | 2, _, up =>
    cases hv; cases ho
    refine ⟨v0, v1, v', key ?_⟩
    rw [la, la, la, if_neg (show ¬ x.now % 3 = 0 by rw [← hje]; decide), if_neg (show ¬ x.now % 3 = 1 by rw [← hje]; decide), if_pos (show x.now % 3 = 2 by rw [← hje]; rfl), List.append_nil, List.append_nil]
    exact up 7 (by decide) (by decide) rfl
end
end Go.Proofs.Ytokcodeeaneeaaa
