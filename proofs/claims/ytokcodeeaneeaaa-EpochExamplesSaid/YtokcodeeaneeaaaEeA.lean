/- EpochExamples: the memory, one contract per call. -/
import Derived.Test.YtokcodeeaneeaaaEgRa
namespace Go.Proofs.Ytokcodeeaneeaaa
open Go.RowKit
set_option linter.unusedVariables false
set_option linter.unusedSimpArgs false
set_option linter.unusedSectionVars false

/-- The things of the examples. -/
def exL (B p cb qb pb lb : Nat) (lv v0 v1 v2 : Value) (lc : Array Value) (s : BS) (ps : List (Option Nat)) (sc : Value) (o0 o1 o2 : List Int) (scR : Res) (L9 : List Res) : List Res :=
  epochR B p cb qb lv s (edf 2) (pinsV pb 2) sc :: blkR pb 45 (pinsA ps) :: blkR lb 133 lc :: rowR B 92 1 o0.length v0 (hvs o0) :: rowR B 92 1 o1.length v1 (hvs o1) :: rowR B 92 1 o2.length v2 (hvs o2) :: scR :: L9
def ExG (B p cb qb pb lb : Nat) (s : BS) (gp : List Gp) (gs : Gs) (o0 o1 o2 : List Int) (w0 w : World) : Prop :=
  ∃ lv v0 v1 v2, Mem B w0 (exL B p cb qb pb lb lv v0 v1 v2 (lbCells v0 v1 v2) s (gbOf gp) (gsV gs) o0 o1 o2 (gsR qb gs) (gp.map (gpR qb))) w ∧ gp.length = 2 ∧ s.lg.length ≤ 1000 ∧ (o0 ++ o1 ++ o2).length ≤ 1000
section
variable {B p cb qb pb lb k : Nat} {s : BS} {gp : List Gp} {gs : Gs} {o0 o1 o2 : List Int} {w0 w w' : World}
theorem ExG.keep (h : ExG B p cb qb pb lb s gp gs o0 o1 o2 w0 w) (c : Ch (fun _ => False) w w') : ExG B p cb qb pb lb s gp gs o0 o1 o2 w0 w' := by obtain ⟨a, b, c1, d, h, h2⟩ := h; exact ⟨a, b, c1, d, h.keep c, h2⟩
theorem ExG.drewN (h : ExG B p cb qb pb lb s gp gs o0 o1 o2 w0 w) (m : Nat) : ExG B p cb qb pb lb s gp gs o0 o1 o2 w0 (w.drewN m) := h.keep ((Ch.refl _ w).drewN m)
theorem ExG.bel (h : ExG B p cb qb pb lb s gp gs o0 o1 o2 w0 w) : Below B w0 w := by obtain ⟨_, _, _, _, h, _⟩ := h; exact h.bel
theorem ExG.gl (h : ExG B p cb qb pb lb s gp gs o0 o1 o2 w0 w) : gp.length = 2 := by obtain ⟨_, _, _, _, _, h, _⟩ := h; exact h
theorem ExG.now (h : ExG B p cb qb pb lb s gp gs o0 o1 o2 w0 w) : Calls Try.prog 17 #[.pointer (some ⟨qb, 0, none⟩)] w fun e w' => e = .returned (.int .u64 (lk s.vs 0)) ∧ ∃ m, w' = w.drewN m := by
  obtain ⟨lv, v0, v1, v2, h, _⟩ := h
  exact now_any B p cb qb lv s (edf 2) _ _ w (h.each 0 _ rfl)
theorem ExG.pinned (h : ExG B p cb qb pb lb s gp gs o0 o1 o2 w0 w) : Calls Try.prog 18 #[.pointer (some ⟨qb, 0, none⟩)] w fun e w' => ∃ v, e = .returned v ∧ w'.ownsRow w.heap.size 3 1 v (pinL s (edf 2) 2).length ((pinL s (edf 2) 2).map (Value.int .i64)) ∧ Ch (fun _ => False) w w' := by
  obtain ⟨lv, v0, v1, v2, h, _⟩ := h
  exact pinned_any B p cb qb lv s (edf 2) _ _ w (h.each 0 _ rfl)
theorem ExG.pin_at (h : ExG B p cb qb pb lb s gp gs o0 o1 o2 w0 w) {o : Gp} (hk : gp[k]? = some o) : ∃ lv v0 v1 v2, Mem B w0 (exL B p cb qb pb lb lv v0 v1 v2 (lbCells v0 v1 v2) s (gbOf gp) (gsV gs) o0 o1 o2 (gsR qb gs) (gp.map (gpR qb))) w ∧ (exL B p cb qb pb lb lv v0 v1 v2 (lbCells v0 v1 v2) s (gbOf gp) (gsV gs) o0 o1 o2 (gsR qb gs) (gp.map (gpR qb)))[7 + k]? = some (gpR qb o) := by
  obtain ⟨lv, v0, v1, v2, h, _⟩ := h
  exact ⟨lv, v0, v1, v2, h, by rw [Nat.add_comm]; simp [exL, hk]⟩
theorem ExG.pinB (h : ExG B p cb qb pb lb s gp gs o0 o1 o2 w0 w) {g : Nat} {q : Pn} (hk : gp[k]? = some (some (g, q))) : Blk w g 117 (pnCells qb g q) := by
  obtain ⟨_, _, _, _, h, hk⟩ := h.pin_at hk
  exact h.each _ _ hk
theorem ExG.next (h : ExG B p cb qb pb lb s gp gs o0 o1 o2 w0 w) {g : Nat} {q : Pn} (hk : gp[k]? = some (some (g, q))) : Calls Try.prog 21 #[.pointer (some ⟨g, 0, none⟩)] w fun e w' => e = .returned (.int .u8 q.ph) ∧ w = w' := pn_next qb g w q (h.pinB hk)
theorem ExG.gbl (h : ExG B p cb qb pb lb s gp gs o0 o1 o2 w0 w) : (gbOf gp).length = 2 := by have := h.gl; simpa [gbOf] using this
theorem exL_set {lv v0 v1 v2 sc : Value} {lc : Array Value} {ps : List (Option Nat)} {scR r : Res} {L9 : List Res} : (exL B p cb qb pb lb lv v0 v1 v2 lc s ps sc o0 o1 o2 scR L9).set (7 + k) r = exL B p cb qb pb lb lv v0 v1 v2 lc s ps sc o0 o1 o2 scR (L9.set k r) := by
  rw [Nat.add_comm]
  simp [exL]
theorem ExG.pin (h : ExG B p cb qb pb lb s gp gs o0 o1 o2 w0 w) (t : Nat) (ht : t < 16) (hk : k < 2) (hp : gp[k]? = some none) : Calls Try.prog 19 #[.pointer (some ⟨qb, 0, none⟩), .int .i64 t, .int .i64 k] w fun e w' =>
    ∃ g, e = .returned (.tuple #[.pointer (some ⟨g, 0, none⟩), .int .i64 0]) ∧ ExG B p cb qb pb lb s (gp.set k (some (g, ⟨t, k, 0, 9⟩))) gs o0 o1 o2 w0 w' := by
  have hgl := h.gl
  have hgb := h.gbl
  obtain ⟨lv, v0, v1, v2, h, _, hl, ho⟩ := h
  refine (pin_ok B p cb qb pb lv s (edf 2) (gsV gs) (gbOf gp) w (h.each 0 _ rfl) (h.each 1 _ rfl) hgb (t : Int) k (ck_ok ht hk) (gb_at hp)).mono ?_
  rintro e' w' ⟨g, he, hg, hpb, c, hgs⟩
  refine ⟨g, he, lv, v0, v1, v2, ?_, by rw [List.length_set]; exact hgl, hl, ho⟩
  have t := h.upd2 (i := 7 + k) (j := 1) (blkR g 117 (pnCells qb g ⟨t, k, 0, 9⟩)) (blkR pb 45 (pinsA ((gbOf gp).set k (some g)))) (r := gpR qb none) (by rw [Nat.add_comm]; simp [exL, hp]) rfl (by omega) c (fun _ _ e => .inr e) hg hpb (fun i hi => .inr (by rw [show i = g from hi]; exact hgs)) (fun i hi => hi)
  rw [exL_set] at t
  rw [gb_set, List.map_set]
  exact t
theorem ExG.pin_busy (h : ExG B p cb qb pb lb s gp gs o0 o1 o2 w0 w) (t : Nat) (ht : t < 16) (hk : k < 2) {g : Nat} {q : Pn} (hp : gp[k]? = some (some (g, q))) : Calls Try.prog 19 #[.pointer (some ⟨qb, 0, none⟩), .int .i64 t, .int .i64 k] w fun e w' => e = .returned (.tuple #[.pointer none, .int .i64 9]) ∧ w = w' := by
  have hgb := h.gbl
  obtain ⟨lv, v0, v1, v2, h, _⟩ := h
  exact pin_have B p cb qb pb lv s (edf 2) (gsV gs) (gbOf gp) w (h.each 0 _ rfl) (h.each 1 _ rfl) hgb (t : Int) k (ck_ok ht hk) g (gb_at hp)
theorem ExG.step (h : ExG B p cb qb pb lb s gp gs o0 o1 o2 w0 w) (hl : s.lg.length < 900) {g : Nat} {q : Pn} (hp : gp[k]? = some (some (g, q))) (ht : 0 ≤ q.t ∧ q.t < 16) (hs : q.slot < 2) (hph : q.ph = 9 ∨ q.ph = 10) : Calls Try.prog 23 #[.pointer (some ⟨g, 0, none⟩)] w fun e w' =>
    e = .returned (.tuple #[.int .u8 q.ph, .bool ((pnstep s (edf 2) q).2.ph == 0)]) ∧ ExG B p cb qb pb lb (pnstep s (edf 2) q).1 (gp.set k (some (g, (pnstep s (edf 2) q).2))) gs o0 o1 o2 w0 w' := by
  have hgl := h.gl
  have hB := h.pinB hp
  obtain ⟨lv, v0, v1, v2, h, _, hl', ho⟩ := h
  refine (pn_step B p cb qb g lv s (edf 2) (pinsV pb 2) (gsV gs) q w (h.each 0 _ rfl) hB ht (by omega) h.bz hs (.inr hph)).mono ?_
  rintro e' w' ⟨he, lv', hE, hg, c, hf⟩
  refine ⟨he, lv', v0, v1, v2, ?_, by rw [List.length_set]; exact hgl, by rw [pnstep_ll (n := 2) hph]; omega, ho⟩
  have t := h.upd2 (i := 0) (j := 7 + k) (epochR B p cb qb lv' (pnstep s (edf 2) q).1 (edf 2) (pinsV pb 2) (gsV gs)) (blkR g 117 (pnCells qb g (pnstep s (edf 2) q).2)) rfl (s := gpR qb (some (g, q))) (by rw [Nat.add_comm]; simp [exL, hp]) (by omega) c (fun k _ e => e.imp .inl id) hE hg (fun k hk => fp_newG hf hk) (fun k hk => hk)
  have e0 : (exL B p cb qb pb lb lv v0 v1 v2 (lbCells v0 v1 v2) s (gbOf gp) (gsV gs) o0 o1 o2 (gsR qb gs) (gp.map (gpR qb))).set 0 (epochR B p cb qb lv' (pnstep s (edf 2) q).1 (edf 2) (pinsV pb 2) (gsV gs)) = exL B p cb qb pb lb lv' v0 v1 v2 (lbCells v0 v1 v2) (pnstep s (edf 2) q).1 (gbOf gp) (gsV gs) o0 o1 o2 (gsR qb gs) (gp.map (gpR qb)) := rfl
  rw [e0, exL_set] at t
  rw [gb_step hp, List.map_set]
  exact t
theorem ExG.unpin (h : ExG B p cb qb pb lb s gp gs o0 o1 o2 w0 w) (hl : s.lg.length < 900) (t : Nat) (ht : t < 16) (hk : k < 2) {g : Nat} {q : Pn} (hp : gp[k]? = some (some (g, q))) (hq : q.ph = 0) : Calls Try.prog 25 #[.pointer (some ⟨qb, 0, none⟩), .int .i64 t, .int .i64 k] w fun e w' =>
    e = .returned (.int .i64 0) ∧ ExG B p cb qb pb lb (s.store t ((edf 2).slot k : Nat) 0) (gp.set k none) gs o0 o1 o2 w0 w' := by
  have hgl := h.gl
  have hgb := h.gbl
  have hB := h.pinB hp
  obtain ⟨lv, v0, v1, v2, h, _, hl', ho⟩ := h
  refine (unpin_ok B p cb qb pb lv s (edf 2) (gsV gs) (gbOf gp) w (h.each 0 _ rfl) (h.each 1 _ rfl) hgb (t : Int) (by omega) h.bz k (ck_ok ht hk) g (gb_at hp) q hB hq).mono ?_
  rintro e' w' ⟨he, lv', hE, hpb, c, hf⟩
  refine ⟨he, lv', v0, v1, v2, ?_, by rw [List.length_set]; exact hgl, by rw [store_ll]; omega, ho⟩
  have t := h.upd2 (i := 0) (j := 1) (epochR B p cb qb lv' _ (edf 2) (pinsV pb 2) (gsV gs)) (blkR pb 45 (pinsA ((gbOf gp).set k none))) rfl rfl (by decide) c (fun k _ e => e.imp .inl id) hE hpb (fun k hk => fp_newG hf hk) (fun k hk => hk)
  have t2 := t.upd (i := 7 + k) (fp := fun _ => False) (pureR True) (r := gpR qb (some (g, q))) (by rw [Nat.add_comm]; simp [exL, hp]) (Ch.refl _ _) (fun _ _ e => e.elim) trivial (fun _ e => e.elim)
  have e0 : ∀ (E P : Res), (((exL B p cb qb pb lb lv v0 v1 v2 (lbCells v0 v1 v2) s (gbOf gp) (gsV gs) o0 o1 o2 (gsR qb gs) (gp.map (gpR qb))).set 0 E).set 1 P).set (7 + k) (pureR True) = E :: P :: ((exL B p cb qb pb lb lv v0 v1 v2 (lbCells v0 v1 v2) s (gbOf gp) (gsV gs) o0 o1 o2 (gsR qb gs) (gp.map (gpR qb))).drop 2).set (5 + k) (pureR True) := fun E P => by rw [show 7 + k = (5 + k) + 2 by omega]; rfl
  rw [e0, show 5 + k = k + 5 by omega] at t2
  rw [gb_set, List.map_set]
  exact t2
/-- The last scan rests, or there was none. -/
def gsRest : Gs → Prop
  | some (_, q) => q.ph = 0
  | none => True
theorem ExG.scanB (h : ExG B p cb qb pb lb s gp gs o0 o1 o2 w0 w) (t : Nat) (ht : t < 16) (hr : gsRest gs) : Calls Try.prog 27 #[.pointer (some ⟨qb, 0, none⟩), .int .i64 t] w fun e w' =>
    ∃ g, e = .returned (.tuple #[.pointer (some ⟨g, 0, none⟩), .int .i64 0]) ∧ ExG B p cb qb pb lb s gp (some (g, snBeg (edf 2) ⟨t, 0, false, 0⟩)) o0 o1 o2 w0 w' := by
  obtain ⟨lv, v0, v1, v2, h, hgl, hl, ho⟩ := h
  have hrs : SRests w qb (gsV gs) := by
    have hb := h.each 6 _ rfl
    match gs, hr, hb with
    | none, _, _ => exact .inl rfl
    | some (g, q), hr, hb => exact .inr ⟨g, q, rfl, hb, hr⟩
  refine (scan_ok B p cb qb lv s (edf 2) (pinsV pb 2) (gsV gs) w (h.each 0 _ rfl) (t : Int) (by omega) hrs).mono ?_
  rintro e' w' ⟨g, he, hE, hg, c, hgs⟩
  refine ⟨g, he, lv, v0, v1, v2, ?_, hgl, hl, ho⟩
  exact h.upd2 (i := 6) (j := 0) (gsR qb (some (g, snBeg (edf 2) ⟨t, 0, false, 0⟩))) (epochR B p cb qb lv s (edf 2) (pinsV pb 2) (.pointer (some ⟨g, 0, none⟩))) rfl rfl (by decide) c (fun k _ e => .inr (.inr e)) hg hE (fun k hk => .inr (by rw [show k = g from hk]; exact hgs)) (fun k hk => hk)
theorem ExG.scanS {g : Nat} {q : Sn} (h : ExG B p cb qb pb lb s gp (some (g, q)) o0 o1 o2 w0 w) (hl : s.lg.length < 900) (ht : 0 ≤ q.t ∧ q.t < 16) (hph : (q.ph = 34 ∧ q.at' < 2) ∨ q.ph = 35) : Calls Try.prog 31 #[.pointer (some ⟨g, 0, none⟩)] w fun e w' =>
    e = .returned (.tuple #[.int .u8 q.ph, .bool ((snstep s (edf 2) q).2.ph == 0)]) ∧ ExG B p cb qb pb lb (snstep s (edf 2) q).1 gp (some (g, (snstep s (edf 2) q).2)) o0 o1 o2 w0 w' := by
  obtain ⟨lv, v0, v1, v2, h, hgl, hl', ho⟩ := h
  refine (sn_step B p cb qb g lv s (edf 2) (pinsV pb 2) _ q w (h.each 0 _ rfl) (h.each 6 _ rfl) ht (by omega) h.bz (.inr hph)).mono ?_
  rintro e' w' ⟨he, lv', hE, hg, c, hf⟩
  refine ⟨he, lv', v0, v1, v2, ?_, hgl, by rw [snstep_ll (n := 2) (hph.imp (fun e => e.1) id)]; omega, ho⟩
  exact h.upd2 (i := 0) (j := 6) (epochR B p cb qb lv' _ (edf 2) (pinsV pb 2) (.pointer (some ⟨g, 0, none⟩))) (gsR qb (some (g, _))) rfl rfl (by decide) c (fun k _ e => e.imp .inl id) hE hg (fun k hk => fp_newG hf hk) (fun k hk => hk)
theorem ExG.result {g : Nat} {q : Sn} (h : ExG B p cb qb pb lb s gp (some (g, q)) o0 o1 o2 w0 w) (hq : q.ph = 0) : Calls Try.prog 33 #[.pointer (some ⟨g, 0, none⟩)] w fun e w' => e = .returned (.tuple #[.bool q.adv, .int .i64 0]) ∧ w = w' := by
  obtain ⟨lv, v0, v1, v2, h, _⟩ := h
  have t := sn_result qb g w q (h.each 6 _ rfl) (.inl hq)
  rw [show snRes q = (q.adv, 0) from if_pos hq] at t
  exact t
end
end Go.Proofs.Ytokcodeeaneeaaa
