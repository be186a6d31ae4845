/- Runs of an epoch: what a step of a scan leaves. -/
import Derived.Test.YtokcodeeaneeaaaEgD
namespace Go.Proofs.Ytokcodeeaneeaaa
open Go.RowKit
set_option linter.unusedVariables false
set_option linter.unusedSimpArgs false
set_option linter.unusedSectionVars false

section
variable {rp : List (Option Nat)} {B p cb qb pb pr X lb n M : Nat} {lv ov v0 v1 v2 : Value} {x : Xr} {gp : List Gp} {gs : Gs} {go : List (Nat × Rt)} {w0 w : World}
theorem fp_newG {v v' : Value} {W : World} (hf : Fresh W v v') {k : Nat} (h : FP p cb v' k ∨ k = qb) : (FP p cb v k ∨ k = qb) ∨ W.heap.size ≤ k := by
  rcases h with (e | e | e) | e
  · exact .inl (.inl (.inl e))
  · exact .inl (.inl (.inr (.inl e)))
  · rcases hf with e' | e'
    · exact .inl (.inl (.inr (.inr (by rw [← e']; exact e))))
    · exact .inr (e' k e)
  · exact .inl (.inr e)
theorem gsLive_0 {g : Nat} {q : Sn} (h : q.ph = 0) : gsLive (some (g, q)) = none := if_pos h
theorem gsLive_1 {g : Nat} {q : Sn} (h : ¬ q.ph = 0) : gsLive (some (g, q)) = some (g, q) := if_neg h
/-- No scan is in progress: the last one rests. -/
theorem RunG.rests (h : RunG rp B p cb qb pb pr X lb n M lv ov v0 v1 v2 x gp gs go w0 w) (hx : x.sc = none) : SRests w qb (gsV gs) ∧ gsV (gsLive gs) = .pointer none := by
  have hs := h.sc
  rw [hx] at hs
  match gs, hs, h.mem.each 9 _ rfl with
  | none, _, _ => exact ⟨.inl rfl, rfl⟩
  | some (g, q), hs, hb =>
    by_cases hq : q.ph = 0
    · exact ⟨.inr ⟨g, q, rfl, hb, hq⟩, by simp [gsLive, hq, gsV, pinV]⟩
    · simp [gsLive, hq] at hs
theorem RunG.live (h : RunG rp B p cb qb pb pr X lb n M lv ov v0 v1 v2 x gp gs go w0 w) (hx : x.sc ≠ none) : ∃ g q, gs = some (g, q) ∧ q.ph ≠ 0 ∧ x.sc = some q ∧ gsV (gsLive gs) = .pointer (some ⟨g, 0, none⟩) := by
  have hs := h.sc
  match gs, hs with
  | none, hs => exact absurd hs hx
  | some (g, q), hs =>
    by_cases hq : q.ph = 0
    · simp [gsLive, hq] at hs
      exact absurd hs hx
    · exact ⟨g, q, rfl, hq, by simp [gsLive, hq] at hs; exact hs, by simp [gsLive, hq, gsV, pinV]⟩
/-- A scan was begun. -/
theorem RunG.begun (h : RunG rp B p cb qb pb pr X lb n M lv ov v0 v1 v2 x gp gs go w0 w) (hx : x.sc = none) {e : Ending} {w' : World} (hb : SnBegun B p cb qb lv x.s (edf n) (pinsV pb n) 15 w e w') :
    ∃ g, e = .returned (.tuple #[.pointer (some ⟨g, 0, none⟩), .int .i64 0]) ∧ Mem B w0 (egL B p cb qb pb pr X lb n lv ov v0 v1 v2 (lbCells v0 v1 v2) x.s x.fine (gbOf gp) rp (.pointer (some ⟨g, 0, none⟩)) (.pointer none) (gsR qb (some (g, sn0 n))) (lim x.old 0 0) (lim x.old 0 1) (lim x.old 0 2) go.length (goV n go) (gp.map (gpR qb)) (go.map goR)) w' := by
  obtain ⟨g, he, hE, hg, c, hgs⟩ := hb
  refine ⟨g, he, ?_⟩
  have e0 := (h.rests hx).2
  have t := h.mem.upd2 (i := 9) (j := 0) (gsR qb (some (g, sn0 n))) (epochR B p cb qb lv x.s (edf n) (pinsV pb n) (.pointer (some ⟨g, 0, none⟩))) rfl rfl (by decide) c (fun k _ e => .inr (.inr e)) hg hE (fun k hk => .inr (by rw [show k = g from hk]; exact hgs)) (fun k hk => hk)
  rw [e0] at t
  exact t
theorem RunG.begun2 (h : RunG rp B p cb qb pb pr X lb n M lv ov v0 v1 v2 x gp gs go w0 w) (hx : x.sc = none) {g : Nat} {w' : World} (m : Mem B w0 (egL B p cb qb pb pr X lb n lv ov v0 v1 v2 (lbCells v0 v1 v2) x.s x.fine (gbOf gp) rp (.pointer (some ⟨g, 0, none⟩)) (.pointer (some ⟨g, 0, none⟩)) (gsR qb (some (g, sn0 n))) (lim x.old 0 0) (lim x.old 0 1) (lim x.old 0 2) go.length (goV n go) (gp.map (gpR qb)) (go.map goR)) w') :
    RunG rp B p cb qb pb pr X lb n M lv ov v0 v1 v2 { x with sc := some (sn0 n) } gp (some (g, sn0 n)) go w0 w' := by
  have hne : ¬ (sn0 n).ph = 0 := by unfold sn0; simp only; split <;> decide
  have hl : gsLive (some (g, sn0 n)) = some (g, sn0 n) := gsLive_1 hne
  have hi := h.inv
  refine ⟨?_, h.ps, by rw [hl]; rfl, h.old, ⟨hi.vl, hi.ll, hi.nw, hi.pl, hi.pk, fun q hq => ?_, hi.ol⟩, h.om, h.n5, h.hM⟩
  · rw [hl]; exact m
  · injection hq with hq; subst hq; exact ⟨rfl, rfl, Nat.zero_le _, rfl⟩
theorem xscan_begun (hx : x.sc = none) : xscan n { x with sc := some (sn0 n) } = xscan n x := by
  unfold xscan
  rw [hx]; rfl
/-- A scan was stepped. -/
theorem RunG.stepped {g : Nat} {q : Sn} (h : RunG rp B p cb qb pb pr X lb n M lv ov v0 v1 v2 x gp (some (g, q)) go w0 w) {s' : BS} {q' : Sn} {lv' : Value} {w' : World} (hE : EpochM B w' p cb qb lv' s' (edf n) (pinsV pb n) (.pointer (some ⟨g, 0, none⟩))) (hg : Blk w' g 124 (snCells qb g q')) (c : Ch (fun b => FP p cb lv b ∨ b = g) w w') (hf : Fresh w lv lv') :
    Mem B w0 (egL B p cb qb pb pr X lb n lv' ov v0 v1 v2 (lbCells v0 v1 v2) s' x.fine (gbOf gp) rp (.pointer (some ⟨g, 0, none⟩)) (gsV (gsLive (some (g, q)))) (gsR qb (some (g, q'))) (lim x.old 0 0) (lim x.old 0 1) (lim x.old 0 2) go.length (goV n go) (gp.map (gpR qb)) (go.map goR)) w' :=
  h.mem.upd2 (i := 0) (j := 9) (epochR B p cb qb lv' s' (edf n) (pinsV pb n) (.pointer (some ⟨g, 0, none⟩))) (gsR qb (some (g, q'))) rfl rfl (by decide) c (fun k _ e => e.imp .inl id) hE hg (fun k hk => fp_newG hf hk) (fun k hk => hk)
theorem snstep_ll {s : BS} {q : Sn} (h : q.ph = 34 ∨ q.ph = 35) : (snstep s (edf n) q).1.lg.length = s.lg.length + 1 := by
  unfold snstep
  rcases h with h | h
  · rw [if_pos h]; exact load_ll _ _ _
  · rw [if_neg (by rw [h]; decide), if_pos h]; exact store_ll _ _ _ _
theorem xscan_of {q : Sn} (hx : x.sc = some q) (h : (snstep x.s (edf n) q).2.ph ≠ 0) : xscan n x = { x with s := (snstep x.s (edf n) q).1, sc := some (snstep x.s (edf n) q).2 } := by
  unfold xscan
  rw [hx]
  simp only [Option.getD_some]
  rw [if_neg h]
theorem xscan_of0 {q : Sn} (hx : x.sc = some q) (h : (snstep x.s (edf n) q).2.ph = 0) (ha : (snstep x.s (edf n) q).2.adv = false) : xscan n x = { x with s := (snstep x.s (edf n) q).1, sc := none } := by
  unfold xscan
  rw [hx]
  simp only [Option.getD_some]
  rw [if_pos h, if_neg (by rw [ha]; decide)]
theorem xscan_of1 {q : Sn} (hx : x.sc = some q) (h : (snstep x.s (edf n) q).2.ph = 0) (ha : (snstep x.s (edf n) q).2.adv = true) {o : List Rt} {f : Bool} (hd : (o, f) = (lim x.old 0 (dueJ (lk (snstep x.s (edf n) q).1.vs 0))).foldl (dueF (lk (snstep x.s (edf n) q).1.vs 0)) (x.old, x.fine)) : xscan n x = { x with s := (snstep x.s (edf n) q).1, sc := none, old := o, fine := f } := by
  unfold xscan
  rw [hx]
  simp only [Option.getD_some]
  rw [if_pos h, if_pos ha, ← hd]
theorem snstep_now (h : EInv n M x) (hM : M ≤ 200000) {q : Sn} (hq : x.sc = some q) : x.now ≤ lk (snstep x.s (edf n) q).1.vs 0 ∧ lk (snstep x.s (edf n) q).1.vs 0 ≤ x.now + 1 := by
  obtain ⟨h1, h2, h3, h4⟩ := h.sc q hq
  have hw : w64 (x.now + 1) = x.now + 1 := by have := h.nw; unfold w64; omega
  by_cases hlt : q.at' < n
  · rw [if_pos hlt] at h4
    unfold snstep
    rw [if_pos h4]
    show x.now ≤ lk x.s.vs 0 ∧ lk x.s.vs 0 ≤ x.now + 1
    have : lk x.s.vs 0 = x.now := rfl
    omega
  · rw [if_neg hlt] at h4
    unfold snstep
    rw [if_neg (by rw [h4]; decide), if_pos h4]
    rw [show (edf n).ep = 0 from rfl, show lk x.s.vs 0 = x.now from rfl, hw]
    have hl : lk (x.s.store q.t (0 : Nat) (x.now + 1)).vs 0 = x.now + 1 := lk_set _ (by have := h.vl; show 0 < x.s.vs.length; omega)
    show x.now ≤ lk (x.s.store q.t (0 : Nat) (x.now + 1)).vs 0 ∧ _ ≤ _
    rw [hl]
    omega
theorem RunG.goOk (h : RunG rp B p cb qb pb pr X lb n M lv ov v0 v1 v2 x gp gs go w0 w) {now : Int} (hn : x.now ≤ now) : GoOk n now go := by
  refine ⟨Nat.le_trans h.om h.hM, fun y hy => ?_⟩
  have t := h.inv.ol y.2 (by rw [h.old]; exact List.mem_map_of_mem hy)
  exact ⟨t.1, t.2.1, Int.le_trans t.2.2.1 hn⟩
/-- What scan leaves. -/
def Scanned (rp : List (Option Nat)) (B p cb qb pb pr X lb n M : Nat) (ov : Value) (x : Xr) (gp : List Gp) (w0 : World) (e : Ending) (w' : World) : Prop :=
  e = .returned (.bool true) ∧ ∃ lv v0 v1 v2 gs go, RunG rp B p cb qb pb pr X lb n (M + 1) lv ov v0 v1 v2 (xscan n x) gp gs go w0 w'
end
end Go.Proofs.Ytokcodeeaneeaaa
