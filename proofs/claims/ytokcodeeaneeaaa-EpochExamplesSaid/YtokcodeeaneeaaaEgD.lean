/- Runs of an epoch: what is due. -/
import Derived.Test.YtokcodeeaneeaaaEgB
namespace Go.Proofs.Ytokcodeeaneeaaa
open Go.RowKit
set_option linter.unusedVariables false
set_option linter.unusedSimpArgs false
set_option linter.unusedSectionVars false

/-- What is known of the retired handles. -/
def GoOk (n : Nat) (now : Int) (go : List (Nat × Rt)) : Prop := go.length ≤ 200000 ∧ ∀ y ∈ go, y.2.sl.length = n ∧ 0 ≤ y.2.ep ∧ y.2.ep ≤ now
theorem GoOk.set {n : Nat} {now : Int} {go : List (Nat × Rt)} (h : GoOk n now go) {k : Nat} {y : Nat × Rt} (hk : go[k]? = some y) (b : Bool) : GoOk n now (go.set k (y.1, { y.2 with due := b })) :=
  ⟨by rw [List.length_set]; exact h.1, fun z hz => by
    rcases List.mem_or_eq_of_mem_set hz with hz | rfl
    · exact h.2 z hz
    · exact h.2 y (List.mem_of_getElem? hk)⟩
theorem go_mark {go : List (Nat × Rt)} {k : Nat} {y : Nat × Rt} (hk : go[k]? = some y) : (go.set k (y.1, { y.2 with due := true })).map Prod.snd = mark (go.map Prod.snd) ((k : Int) + 1) := by
  unfold mark
  rw [show ((k : Int) + 1 - 1).toNat = k by omega, List.map_set]
  apply List.ext_getElem?
  intro j
  rw [List.getElem?_set, List.getElem?_modify]
  by_cases e : k = j
  · subst e
    have hl := (List.getElem?_eq_some_iff.1 hk).1
    rw [if_pos rfl, if_pos (by simpa using hl)]
    simp [hk]
  · rw [if_neg e]
    simp [e]
theorem okAt_go {go : List (Nat × Rt)} {k : Nat} {y : Nat × Rt} (hk : go[k]? = some y) (now : Int) : okAt now (go.map Prod.snd) ((k : Int) + 1) = okR now y.2 := by
  unfold okAt
  rw [show ((k : Int) + 1 - 1).toNat = k by omega]
  simp [hk]
theorem goR_set {go : List (Nat × Rt)} {k : Nat} {y : Nat × Rt} (hk : go[k]? = some y) (b : Bool) : (go.set k (y.1, { y.2 with due := b })).map goR = go.map goR := by
  rw [List.map_set]
  apply List.ext_getElem?
  intro j
  rw [List.getElem?_set]
  by_cases e : k = j
  · subst e
    have hl := (List.getElem?_eq_some_iff.1 hk).1
    rw [if_pos rfl, if_pos (by simpa using hl)]
    simp [hk, goR]
  · rw [if_neg e]
theorem all_take {l : List Bool} {q : Nat} (h : q < l.length) : (l.take (q + 1)).all (fun b => !b) = ((l.take q).all (fun b => !b) && !(l[q]'h)) := by
  rw [List.take_add_one, List.getElem?_eq_getElem h, List.all_append]
  simp
theorem fold_succ {β : Type} {l : List Int} {i : Nat} (h : i < l.length) (F : β → Int → β) (z : β) : (l.take (i + 1)).foldl F z = F ((l.take i).foldl F z) (lk l i) := by
  rw [List.take_add_one, List.getElem?_eq_getElem h, List.foldl_append]
  simp [lk, h]
theorem boolA_at {l : List Bool} {q : Nat} (h : q < l.length) : (boolA l)[q]? = some (.bool (l[q]'h)) := by simp [boolA, h]

theorem Ch.setNew {fp : Nat → Prop} {w w' : World} (c : Ch fp w w') (o : Nat) (u : Value) : Ch fp w (w'.setCell ⟨w.heap.size, o, none⟩ u) := c.set (fun h => absurd h (Nat.lt_irrefl _)) u
section
variable {B p cb qb pb pr X lb n : Nat} {lv ov v0 v1 v2 : Value} {s : BS} {fine : Bool} {ps ps' : List (Option Nat)} {sc rsc : Value} {scR : Res} {o : List Rt} {go : List (Nat × Rt)} {L9 : List Res} {w0 w : World}
theorem lim_row {lc : Array Value} {v : Value} {j : Nat} (hj : j < 3) (hv : (lbCells v0 v1 v2)[j]? = some v) : (egL B p cb qb pb pr X lb n lv ov v0 v1 v2 lc s fine ps ps' sc rsc scR (lim o 0 0) (lim o 0 1) (lim o 0 2) go.length (goV n go) L9 (go.map goR))[5 + j]? = some (rowR B 92 1 (lim o 0 (j : Nat)).length v (hvs (lim o 0 (j : Nat)))) := by
  match j, hj with
  | 0, _ => cases hv; rfl
  | 1, _ => cases hv; rfl
  | 2, _ => cases hv; rfl
/-- The list that was due is taken out. -/
theorem due_close {f' : Bool} {go' : List (Nat × Rt)} {j : Nat} {w' : World} (hj : j < 3) (he : go'.map Prod.snd = markAll o (j : Nat)) (h : Mem B w0 (egL B p cb qb pb pr X lb n lv ov v0 v1 v2 ((lbCells v0 v1 v2).setIfInBounds j (.slice none 0 0)) s f' ps ps' sc rsc scR (lim o 0 0) (lim o 0 1) (lim o 0 2) go'.length (goV n go') L9 (go'.map goR)) w') :
    ∃ u0 u1 u2, Mem B w0 (egL B p cb qb pb pr X lb n lv ov u0 u1 u2 (lbCells u0 u1 u2) s f' ps ps' sc rsc scR (lim (go'.map Prod.snd) 0 0) (lim (go'.map Prod.snd) 0 1) (lim (go'.map Prod.snd) 0 2) go'.length (goV n go') L9 (go'.map goR)) w' := by
  rw [he]
  have nil : ∀ (i : Nat) (r : Res), (egL B p cb qb pb pr X lb n lv ov v0 v1 v2 ((lbCells v0 v1 v2).setIfInBounds j (.slice none 0 0)) s f' ps ps' sc rsc scR (lim o 0 0) (lim o 0 1) (lim o 0 2) go'.length (goV n go') L9 (go'.map goR))[i]? = some r → Mem B w0 ((egL B p cb qb pb pr X lb n lv ov v0 v1 v2 ((lbCells v0 v1 v2).setIfInBounds j (.slice none 0 0)) s f' ps ps' sc rsc scR (lim o 0 0) (lim o 0 1) (lim o 0 2) go'.length (goV n go') L9 (go'.map goR)).set i (rowR B 92 1 0 (.slice none 0 0) [])) w' := fun i r hi =>
    h.upd (rowR B 92 1 0 (.slice none 0 0) []) hi (Ch.refl (fun _ => False) _) (fun _ _ e => e.elim) (World.ownsRow_nil _ _ _ _) (fun k hk => by cases hk)
  match j, hj, nil, h with
  | 0, _, nil, h => exact ⟨.slice none 0 0, v1, v2, by rw [show markAll o ((0 : Nat) : Int) = markAll o 0 from rfl, lim_marked, lim_other (by decide), lim_other (by decide)]; exact nil 5 _ rfl⟩
  | 1, _, nil, h => exact ⟨v0, .slice none 0 0, v2, by rw [show markAll o ((1 : Nat) : Int) = markAll o 1 from rfl, lim_marked, lim_other (by decide), lim_other (by decide)]; exact nil 6 _ rfl⟩
  | 2, _, nil, h => exact ⟨v0, v1, .slice none 0 0, by rw [show markAll o ((2 : Nat) : Int) = markAll o 2 from rfl, lim_marked, lim_other (by decide), lim_other (by decide)]; exact nil 7 _ rfl⟩
end

/-- The due handles so far. -/
def DueSo (B p cb qb pb pr X lb n : Nat) (lv ov v0 v1 v2 : Value) (lc : Array Value) (s : BS) (fine : Bool) (ps ps' : List (Option Nat)) (sc rsc : Value) (scR : Res) (o : List Rt) (now : Int) (l : List Int) (m : Nat) (L9 : List Res) (i : Nat) (w0 w : World) : Prop :=
  ∃ (go : List (Nat × Rt)) (f : Bool), (go.map Prod.snd, f) = (l.take i).foldl (dueF now) (o, fine) ∧ go.length = m ∧ GoOk n now go ∧ Mem B w0 (egL B p cb qb pb pr X lb n lv ov v0 v1 v2 lc s f ps ps' sc rsc scR (lim o 0 0) (lim o 0 1) (lim o 0 2) go.length (goV n go) L9 (go.map goR)) w
def DueOut (B p cb qb pb pr X lb n : Nat) (lv ov : Value) (s : BS) (fine : Bool) (ps ps' : List (Option Nat)) (sc rsc : Value) (scR : Res) (o : List Rt) (now : Int) (m : Nat) (L9 : List Res) (w0 : World) (e : Ending) (w : World) : Prop :=
  e = .returned (.tuple #[]) ∧ ∃ (v0 v1 v2 : Value) (go : List (Nat × Rt)) (f : Bool), (go.map Prod.snd, f) = (lim o 0 (dueJ now)).foldl (dueF now) (o, fine) ∧ go.length = m ∧ GoOk n now go ∧ Mem B w0 (egL B p cb qb pb pr X lb n lv ov v0 v1 v2 (lbCells v0 v1 v2) s f ps ps' sc rsc scR (lim (go.map Prod.snd) 0 0) (lim (go.map Prod.snd) 0 1) (lim (go.map Prod.snd) 0 2) go.length (goV n go) L9 (go.map goR)) w

set_option maxRecDepth 100000 in
set_option maxHeartbeats 4000000 in
theorem due_any (B p cb qb pb pr X lb n : Nat) (lv ov v0 v1 v2 : Value) (s : BS) (fine : Bool) (ps ps' : List (Option Nat)) (sc rsc : Value) (scR : Res) (o : List Rt) (go : List (Nat × Rt)) (L9 : List Res) (w0 w : World)
    (h : Mem B w0 (egL B p cb qb pb pr X lb n lv ov v0 v1 v2 (lbCells v0 v1 v2) s fine ps ps' sc rsc scR (lim o 0 0) (lim o 0 1) (lim o 0 2) go.length (goV n go) L9 (go.map goR)) w) (ho : o = go.map Prod.snd) (hL9 : L9.length = n) (hn5 : n ≤ 5) (hnw : 0 ≤ lk s.vs 0 ∧ lk s.vs 0 ≤ 400000) (hg : GoOk n (lk s.vs 0) go) :
    Calls Try.prog 65 #[.pointer (some ⟨X, 0, none⟩)] w (DueOut B p cb qb pb pr X lb n lv ov s fine ps ps' sc rsc scR o (lk s.vs 0) go.length L9 w0) := by
  obtain ⟨now, hnow⟩ : ∃ now, now = lk s.vs 0 := ⟨_, rfl⟩
  rw [← hnow] at hnw hg ⊢
  have HM := hid h
  have HN := hid hnow
  have HG := hid hg
  have HO := hid ho
  have x1 : w.cell? ⟨X, 1, none⟩ = some (.pointer (some ⟨qb, 0, none⟩)) := (h.each 3 _ rfl).cell 1
  clear h hnow hg ho
  go_enter Try.func65, Try.ntmps65
  go_wp2_with fail
  refine (now_any B p cb qb lv s (edf n) _ _ w (HM.out.each 0 _ rfl)).mono ?_
  rintro e w1 ⟨rfl, n1, rfl⟩
  rw [show lk s.vs (edf n).ep = now from HN.out.symm]
  have M1 := hid (HM.out.drewN n1)
  have x2 : (w.drewN n1).cell? ⟨X, 2, none⟩ = some (.pointer (some ⟨lb, 0, none⟩)) := (M1.out.each 3 _ rfl).cell 2
  clear x1
  go_wp2_with fail
  refine (due_h lb v0 v1 v2 _ (M1.out.each 4 _ rfl) now (by omega)).mono ?_
  rintro e w2 ⟨j, hj, hje, v, hv, rfl, hlb2, c2⟩
  have m2 := M1.out.upd (i := 4) (blkR lb 133 ((lbCells v0 v1 v2).setIfInBounds j (.slice none 0 0))) rfl c2 (fun _ _ e => e) hlb2 (fun _ e => .inl e)
  have m2' : Mem B w0 (egL B p cb qb pb pr X lb n lv ov v0 v1 v2 ((lbCells v0 v1 v2).setIfInBounds j (.slice none 0 0)) s fine ps ps' sc rsc scR (lim o 0 0) (lim o 0 1) (lim o 0 2) go.length (goV n go) L9 (go.map goR)) w2 := m2
  have M2 := hid m2'
  have HV := hid hv
  have HJ := hid hje
  clear m2 m2' hlb2 c2 x2 hv hje
  obtain ⟨l, hl⟩ : ∃ l, l = lim o 0 (j : Nat) := ⟨_, rfl⟩
  have hls := hs_of_own (show w2.ownsRow B 92 1 v (lim o 0 (j : Nat)).length (hvs (lim o 0 (j : Nat))) from M2.out.each (5 + j) _ (lim_row hj HV.out))
  rw [← hl] at hls
  obtain ⟨Av, cv, hvv, hcv, _⟩ := hls
  have hlb : l.length ≤ 200000 := by
    have h1 := lim_len (j : Nat) o 0
    have h2 := HG.out.1
    rw [HO.out, List.length_map] at h1
    rw [hl, HO.out]
    omega
  have HL := hid hl
  have HVV := hid hvv
  rw [hvv]
  clear hl hvv
  go_wp2_with fail
  go_loopw [4] (fun i wr => ∃ q : Nat, q ≤ l.length ∧ i = .int .i64 q ∧ DueSo B p cb qb pb pr X lb n lv ov v0 v1 v2 ((lbCells v0 v1 v2).setIfInBounds j (.slice none 0 0)) s fine ps ps' sc rsc scR o now l go.length L9 q w0 wr) (fun i _ => l.length - (intOf i).toNat)
  case atStart => exact ⟨0, Nat.zero_le _, rfl, go, fine, by rw [HO.out]; rfl, rfl, HG.out, M2.out⟩
  case round =>
    obtain ⟨i, hi, rfl, go', f, hfold, hgl, hgo, hM⟩ := hrel
    by_cases hlt : i < l.length
    · have d1 : decide (i < l.length) = true := decide_eq_true hlt
      have d1' : decide ((i : Int) < (l.length : Int)) = true := decide_eq_true (by omega)
      obtain ⟨k, r, hk1, hk2, hk3⟩ := lim_mem (o := o) (i := 0) (j := (j : Nat)) (h := lk l i) (by rw [← HL.out]; unfold lk; rw [List.getD_eq_getElem?_getD, List.getElem?_eq_getElem hlt]; exact List.getElem_mem hlt)
      have hkl : k < go'.length := by
        have := (List.getElem?_eq_some_iff.1 hk2).1
        rw [HO.out, List.length_map] at this
        omega
      obtain ⟨y, hy⟩ : ∃ y, go'[k]? = some y := ⟨_, List.getElem?_eq_getElem hkl⟩
      have hls2 := hs_of_own (show wr.ownsRow B 92 1 v (lim o 0 (j : Nat)).length (hvs (lim o 0 (j : Nat))) from hM.each (5 + j) _ (lim_row hj HV.out))
      rw [← HL.out] at hls2
      obtain ⟨Av2, cv2, hvv2, hcv2, hcl⟩ := hls2
      rw [HVV.out] at hvv2
      injection hvv2 with e1 e2 e3
      subst e1
      subst e3
      obtain ⟨gv, ofv, hAv, hcl⟩ := hcl (by omega)
      have cl := hcl i _ (hvs_at hlt)
      rw [show lk l i = (k : Int) + 1 by rw [hk1]; omega] at cl
      have hrow : wr.ownsRow B 86 3 ov go'.length (goV n go') := hM.each 8 _ rfl
      obtain ⟨gr, cr, hov, hcr, a0, f0⟩ := own_at3 hrow (goV_at hy (j := 0) rfl)
      obtain ⟨gr1, cr1, hov1, hcr1, a1, f1⟩ := own_at3 hrow (goV_at hy (j := 1) rfl)
      obtain ⟨gr2, cr2, hov2, hcr2, a2, f2⟩ := own_at3 hrow (goV_at hy (j := 2) rfl)
      rw [hov] at hov1 hov2
      injection hov1 with e1 _ e3
      injection e1 with e1
      injection e1 with e1
      injection hov2 with e4 _ e6
      injection e4 with e4
      injection e4 with e4
      subst e1 e4
      have x5 : wr.cell? ⟨X, 5, none⟩ = some (.slice (some ⟨gr, 0, none⟩) go'.length cr) := by rw [← hov]; exact (hM.each 3 _ rfl).cell 5
      have hgl2 := hgo.1
      have hye := (hgo.2 y (List.mem_of_getElem? hy)).2
      have hys := (hgo.2 y (List.mem_of_getElem? hy)).1
      rw [Nat.add_zero] at a0 f0
      have M := hid hM
      have HY := hid hy
      have HGO := hid hgo
      have HF := hid hfold
      have HK := hid (show lk l i = (k : Int) + 1 by rw [hk1]; omega)
      have hlk := hid hkl
      have HOV := hid hov
      have HROW := hid hrow
      have HYS := hid hys
      subst hAv
      clear hM hy hgo hfold hk1 hk2 hk3 hcl hrow hov hys hcr1 hcr2 e3 e6
      have hi1 : i + 1 ≤ l.length := hlt
      have hme : l.length - (i + 1) < l.length - i := by omega
      have b1 : decide ((k : Int) + 1 < 1) = false := decide_eq_false (by omega)
      have b2 : decide ((go'.length : Int) < (k : Int) + 1) = false := decide_eq_false (by omega)
      have cl : wr.cell? ⟨gv, ofv + i, none⟩ = some (.int .u64 ((k : Int) + 1)) := cl
      go_wp2_with fail
      go_quiet (fail)
      go_wp2_with fail
      obtain ⟨D, hD⟩ : ∃ D, D = wr.heap.size := ⟨_, rfl⟩
      obtain ⟨S, hS⟩ : ∃ S : Nat → Prop, ∀ k, S k ↔ k < wr.heap.size := ⟨_, fun _ => Iff.rfl⟩
      have hS1 : Mix.Has S X := (hS _).2 (Blk.lt (M.out.each 3 _ rfl))
      have hS2 : Mix.Has S gv := (hS _).2 (block_lt_of_cell cl)
      have hS3 : Mix.Has S gr := (hS _).2 (block_lt_of_cell a0)
      have HS := hid hS
      have HDD := hid hD
      clear hS hD
      refine Mix.wp_region_mix S (fun i => ([1, 1, 1, 4, 1, 1, 1, 4, 1, 1, 4, 3, 2] : List Nat).getD i 0) [0, 1, 2, 3, 4, 5, 6, 7, 8, 9, 10, 11, 12] (by kernel_rfl) (by kernel_rfl) ?_
      repeat (first | (refine Mix.mix_p (by simp only [List.getElem?_toArray, List.getElem?_cons_zero, List.getElem?_cons_succ]; exact rfl) rfl rfl ?_; go_big_quiet_step (fail); refine wpQuiet_nil ?_) | (refine Mix.mix_s (by simp only [List.getElem?_toArray, List.getElem?_cons_zero, List.getElem?_cons_succ]; exact rfl) rfl rfl ?_; go_big_quiet_step (fail); refine wpQuiet_nil ?_))
      refine Mix.mix_a (by simp only [List.getElem?_toArray, List.getElem?_cons_zero, List.getElem?_cons_succ]; exact rfl) rfl fun W1 hW1 => ?_
      obtain ⟨n2, rfl⟩ := hW1
      go_wp2_with fail
      refine ⟨fun j' hj' => (((Ch.refl (fun _ => False) (wr.drewN nq)).drewN n2).alloc _).block j' ((HS.out j').1 hj') id, ?_⟩
      refine Mix.mix_world fun W hW => ?_
      have hB : Blk W wr.heap.size 86 #[.int .u64 0, .slice none 0 0, .bool false] := by rw [hW]; exact Blk.new (wr.drewN (nq + n2)) _ _
      have hC : Ch (fun _ => False) wr W := by rw [hW]; exact ((Ch.refl (fun _ => False) wr).drewN (nq + n2)).alloc _
      clear hW
      have q0 := hB.cell 0
      have q1 := hB.cell 1
      have q2 := hB.cell 2
      have qf0 := hB.free 0
      have qf1 := hB.free 1
      have qf2 := hB.free 2
      have hB := hid hB
      have hC := hid hC
      refine Mix.mix_e (by simp only [List.getElem?_toArray, List.getElem?_cons_zero, List.getElem?_cons_succ]; exact rfl) rfl fun W2 hW2 => ?_
      obtain ⟨n3, rfl⟩ := hW2
      go_wp2_with fail
      refine Mix.mix_world fun W5 hW5 => ?_
      have HD6 := hid (show Blk W5 D 86 #[.int .u64 y.2.ep, .slice (some ⟨y.1, 0, none⟩) n n, .bool y.2.due] by rw [hW5, HDD.out]; exact (((hB.out.drewN n3).put 0 _).put 1 _).put 2 _)
      have M6 := hid (M.out.keep (w' := W5) (by rw [hW5]; exact (((hC.out.drewN n3).setNew 0 _).setNew 1 _).setNew 2 _))
      have HDX := hid (show X < D by rw [HDD.out]; exact Blk.lt (M.out.each 3 _ rfl))
      rw [← HDD.out]
      clear hW5 hB hC q0 q1 q2 qf0 qf1 qf2 hS1 hS2 hS3 HS HDD M a0 a1 a2 f0 f1 f2 cl x5
      refine Mix.mix_nil ?_
      rintro W3 ⟨n4, rfl⟩
      have HD6 := hid (HD6.out.drewN n4)
      have M6 := hid (M6.out.drewN n4)
      obtain ⟨W6, hW6⟩ : ∃ W6, W6 = W5.drewN n4 := ⟨_, rfl⟩
      rw [← hW6] at HD6 M6 ⊢
      clear hW6
      have p0 := HD6.out.cell 0
      have p2 := HD6.out.cell 2
      have y6 := (M6.out.each 3 _ rfl).cell 6
      have fy6 := Blk.free (M6.out.each 3 _ rfl) 6
      by_cases hdu : y.2.due = true
      · rw [hdu] at p2
        have HDU := hid hdu
        have HOKF := hid (show (f && okR now y.2) = (false && y.2.sl.all (fun b => !b)) by simp [okR, hdu])
        clear hdu
        go_wp2_with fail
        have M7 := hid (show Mem B w0 (egL B p cb qb pb pr X lb n lv ov v0 v1 v2 ((lbCells v0 v1 v2).setIfInBounds j (.slice none 0 0)) s false ps ps' sc rsc scR (lim o 0 0) (lim o 0 1) (lim o 0 2) go'.length (goV n go') L9 (go'.map goR)) (W6.setCell ⟨X, 6, none⟩ (.bool false)) from M6.out.put (i := 3) rfl 6 (.bool false))
        have HD7 := hid (show Blk (W6.setCell ⟨X, 6, none⟩ (.bool false)) D 86 #[.int .u64 y.2.ep, .slice (some ⟨y.1, 0, none⟩) n n, .bool y.2.due] from HD6.out.far (by have := HDX.out; show D ≠ X; omega) _)
        clear p0 p2 y6 fy6 M6 HD6
        go_loopw [6] (fun i2 w2r => ∃ q : Nat, q ≤ n ∧ i2 = .int .i64 q ∧ Blk w2r D 86 #[.int .u64 y.2.ep, .slice (some ⟨y.1, 0, none⟩) n n, .bool y.2.due] ∧ Mem B w0 (egL B p cb qb pb pr X lb n lv ov v0 v1 v2 ((lbCells v0 v1 v2).setIfInBounds j (.slice none 0 0)) s (false && (y.2.sl.take q).all (fun b => !b)) ps ps' sc rsc scR (lim o 0 0) (lim o 0 1) (lim o 0 2) go'.length (goV n go') L9 (go'.map goR)) w2r) (fun i2 _ => n - (intOf i2).toNat)
        case atStart => exact ⟨0, Nat.zero_le _, rfl, HD7.out, by have := M7.out; simpa using this⟩
        case round =>
          obtain ⟨q, hq, rfl, hD, hM⟩ := hrel
          have z1 := hD.cell 1
          have y6 : wr.cell? ⟨X, 6, none⟩ = some (.bool (false && (y.2.sl.take q).all (fun b => !b))) := (hM.each 3 _ rfl).cell 6
          have fy6 := Blk.free (hM.each 3 _ rfl) 6
          by_cases hql : q < n
          · have d2 : decide (q < n) = true := decide_eq_true hql
            have d2' : decide ((q : Int) < (n : Int)) = true := decide_eq_true (by omega)
            have hqs : q < y.2.sl.length := by rw [HYS.out]; exact hql
            have hbl := hM.each (10 + n + k) _ (egL_atO (r := goR y) hL9 (by simp [HY.out]))
            have zb := (Blk.cell hbl q).trans (boolA_at hqs)
            have HALL := hid (all_take hqs)
            have MI := hid hM
            have HDI := hid hD
            clear hbl hM hD
            cases hb : y.2.sl[q]'hqs
            · rw [hb] at zb HALL
              have hb := hid hb
              go_wp2_with fail
              go_roundw
              case rel => exact ⟨q + 1, by omega, by go_num, HDI.out, by rw [HALL.out, Bool.not_false, Bool.and_true]; exact MI.out⟩
              case measure => simp [intOf]; omega
            · rw [hb] at zb HALL
              have hb := hid hb
              go_wp2_with fail
              go_roundw
              case rel => exact ⟨q + 1, by omega, by go_num, HDI.out.far (by have := HDX.out; show D ≠ X; omega) _, by rw [HALL.out]; simp only [Bool.not_true, Bool.and_false]; exact (show Mem B w0 (egL B p cb qb pb pr X lb n lv ov v0 v1 v2 ((lbCells v0 v1 v2).setIfInBounds j (.slice none 0 0)) s false ps ps' sc rsc scR (lim o 0 0) (lim o 0 1) (lim o 0 2) go'.length (goV n go') L9 (go'.map goR)) _ from MI.out.put (i := 3) rfl 6 (.bool false))⟩
              case measure => simp [intOf]; omega
          · have hqn : q = n := by omega
            subst hqn
            rw [List.take_of_length_le (by rw [HYS.out]; exact Nat.le_refl _)] at hM
            have d2 : decide (q < q) = false := decide_eq_false (by omega)
            have d2' : decide ((q : Int) < (q : Int)) = false := decide_eq_false (by omega)
            have hls3 := hs_of_own (show wr.ownsRow B 92 1 v (lim o 0 (j : Nat)).length (hvs (lim o 0 (j : Nat))) from hM.each (5 + j) _ (lim_row hj HV.out))
            rw [← HL.out, HVV.out] at hls3
            obtain ⟨Av3, cv3, hvv3, hcv3, hcl3⟩ := hls3
            injection hvv3 with e1 e2 e3
            subst e1
            obtain ⟨gv3, ofv3, hAv3, hcl3⟩ := hcl3 (by omega)
            injection hAv3 with hAv3
            injection hAv3 with e4 e5 e6
            subst e4 e5
            have cl := hcl3 i _ (hvs_at hlt)
            rw [HK.out] at cl
            have cl : wr.cell? ⟨gv, ofv + i, none⟩ = some (.int .u64 ((k : Int) + 1)) := cl
            have hrow : wr.ownsRow B 86 3 ov go'.length (goV q go') := hM.each 8 _ rfl
            rw [HOV.out] at hrow
            have hk3 : k * 3 + 2 < go'.length * 3 := by have := hlk.out; omega
            have a2 := (hrow.cellAt (k * 3 + 2) hk3).trans (goV_at HY.out (j := 2) rfl)
            have f2 := hrow.frozenAt (k * 3 + 2)
            have x5 : wr.cell? ⟨X, 5, none⟩ = some (.slice (some ⟨gr, 0, none⟩) go'.length cr) := by rw [← HOV.out]; exact (hM.each 3 _ rfl).cell 5
            have hkg : k < go'.length := hlk.out
            have HRW := hid hrow
            have MI := hid hM
            clear hrow hM hk3 hcl3 hcv3 e3 e6 y6 fy6 hD
            go_wp2_with fail
            refine Mix.wp_region_mix (fun _ => True) (fun i => ([0, 0, 0, 0, 0, 0, 0, 0, 0, 0, 0, 2] : List Nat).getD i 0) [0, 1, 2, 3, 4, 5, 6, 7, 8, 9, 10, 11] (by kernel_rfl) (by kernel_rfl) ?_
            repeat (first | (refine Mix.mix_q (by simp only [List.getElem?_toArray, List.getElem?_cons_zero, List.getElem?_cons_succ]; exact rfl) rfl ?_; go_big_quiet_step (fail); refine wpQuiet_nil ?_) | (refine Mix.mix_p (by simp only [List.getElem?_toArray, List.getElem?_cons_zero, List.getElem?_cons_succ]; exact rfl) rfl rfl ?_; go_big_quiet_step (fail); refine wpQuiet_nil ?_))
            refine Mix.mix_e (by simp only [List.getElem?_toArray, List.getElem?_cons_zero, List.getElem?_cons_succ]; exact rfl) rfl fun Wa hWa => ?_
            obtain ⟨n5, rfl⟩ := hWa
            go_wp2_with fail
            intro n6
            have hfin := MI.out.upd (i := 8) (rowR B 86 3 go'.length ov (goV q (go'.set k (y.1, { y.2 with due := true })))) rfl (((Ch.refl (fun b => b = gr) wr).drewN n5).set (o := k * 3 + 2) (fun _ => rfl) (.bool true)) (fun b _ hb => by show ov.ownBlock = some b; rw [HOV.out]; exact congrArg some hb.symm) (by
              show World.ownsRow _ _ _ _ ov _ _
              rw [HOV.out, ← goV_set2 HY.out true]
              exact (World.ownsRow.stored (w := wr.drewN n5) HRW.out (k * 3 + 2) (.bool true)).1) (fun _ e => .inl e)
            have HFIN := hid (hfin.drewN n6)
            clear hfin a2 f2 x5 cl
            go_wp2_with fail
            go_roundw
            case rel =>
              refine ⟨i + 1, hi1, by go_num, go'.set k (y.1, { y.2 with due := true }), false && y.2.sl.all (fun b => !b), ?_, by rw [List.length_set]; exact hgl, HGO.out.set HY.out true, ?_⟩
              · rw [fold_succ hlt, ← HF.out, HK.out]
                show _ = (mark _ _, f && okAt now _ _)
                rw [okAt_go HY.out, HOKF.out, ← go_mark HY.out]
              · rw [goR_set HY.out, List.length_set]
                exact HFIN.out
            case measure => simpa [intOf] using hme
      · have hdu : y.2.due = false := by simpa using hdu
        rw [hdu] at p2
        have HDU := hid hdu
        by_cases hep : y.2.ep + 2 ≤ now
        · have b3 : decide (now < y.2.ep + 2) = false := decide_eq_false (by omega)
          have HOKF := hid (show (f && okR now y.2) = (f && y.2.sl.all (fun b => !b)) by simp [okR, hdu, hep])
          clear hdu
          go_wp2_with fail
          have M7 := hid (show Mem B w0 (egL B p cb qb pb pr X lb n lv ov v0 v1 v2 ((lbCells v0 v1 v2).setIfInBounds j (.slice none 0 0)) s f ps ps' sc rsc scR (lim o 0 0) (lim o 0 1) (lim o 0 2) go'.length (goV n go') L9 (go'.map goR)) W6 from by rw [show (f) = f by simp]; exact M6.out)
          have HD7 := hid (show Blk W6 D 86 #[.int .u64 y.2.ep, .slice (some ⟨y.1, 0, none⟩) n n, .bool y.2.due] from HD6.out)
          clear p0 p2 y6 fy6 M6 HD6
          go_loopw [6] (fun i2 w2r => ∃ q : Nat, q ≤ n ∧ i2 = .int .i64 q ∧ Blk w2r D 86 #[.int .u64 y.2.ep, .slice (some ⟨y.1, 0, none⟩) n n, .bool y.2.due] ∧ Mem B w0 (egL B p cb qb pb pr X lb n lv ov v0 v1 v2 ((lbCells v0 v1 v2).setIfInBounds j (.slice none 0 0)) s (f && (y.2.sl.take q).all (fun b => !b)) ps ps' sc rsc scR (lim o 0 0) (lim o 0 1) (lim o 0 2) go'.length (goV n go') L9 (go'.map goR)) w2r) (fun i2 _ => n - (intOf i2).toNat)
          case atStart => exact ⟨0, Nat.zero_le _, rfl, HD7.out, by have := M7.out; simpa using this⟩
          case round =>
            obtain ⟨q, hq, rfl, hD, hM⟩ := hrel
            have z1 := hD.cell 1
            have y6 : wr.cell? ⟨X, 6, none⟩ = some (.bool (f && (y.2.sl.take q).all (fun b => !b))) := (hM.each 3 _ rfl).cell 6
            have fy6 := Blk.free (hM.each 3 _ rfl) 6
            by_cases hql : q < n
            · have d2 : decide (q < n) = true := decide_eq_true hql
              have d2' : decide ((q : Int) < (n : Int)) = true := decide_eq_true (by omega)
              have hqs : q < y.2.sl.length := by rw [HYS.out]; exact hql
              have hbl := hM.each (10 + n + k) _ (egL_atO (r := goR y) hL9 (by simp [HY.out]))
              have zb := (Blk.cell hbl q).trans (boolA_at hqs)
              have HALL := hid (all_take hqs)
              have MI := hid hM
              have HDI := hid hD
              clear hbl hM hD
              cases hb : y.2.sl[q]'hqs
              · rw [hb] at zb HALL
                have hb := hid hb
                go_wp2_with fail
                go_roundw
                case rel => exact ⟨q + 1, by omega, by go_num, HDI.out, by rw [HALL.out, Bool.not_false, Bool.and_true]; exact MI.out⟩
                case measure => simp [intOf]; omega
              · rw [hb] at zb HALL
                have hb := hid hb
                go_wp2_with fail
                go_roundw
                case rel => exact ⟨q + 1, by omega, by go_num, HDI.out.far (by have := HDX.out; show D ≠ X; omega) _, by rw [HALL.out]; simp only [Bool.not_true, Bool.and_false]; exact (show Mem B w0 (egL B p cb qb pb pr X lb n lv ov v0 v1 v2 ((lbCells v0 v1 v2).setIfInBounds j (.slice none 0 0)) s false ps ps' sc rsc scR (lim o 0 0) (lim o 0 1) (lim o 0 2) go'.length (goV n go') L9 (go'.map goR)) _ from MI.out.put (i := 3) rfl 6 (.bool false))⟩
                case measure => simp [intOf]; omega
            · have hqn : q = n := by omega
              subst hqn
              rw [List.take_of_length_le (by rw [HYS.out]; exact Nat.le_refl _)] at hM
              have d2 : decide (q < q) = false := decide_eq_false (by omega)
              have d2' : decide ((q : Int) < (q : Int)) = false := decide_eq_false (by omega)
              have hls3 := hs_of_own (show wr.ownsRow B 92 1 v (lim o 0 (j : Nat)).length (hvs (lim o 0 (j : Nat))) from hM.each (5 + j) _ (lim_row hj HV.out))
              rw [← HL.out, HVV.out] at hls3
              obtain ⟨Av3, cv3, hvv3, hcv3, hcl3⟩ := hls3
              injection hvv3 with e1 e2 e3
              subst e1
              obtain ⟨gv3, ofv3, hAv3, hcl3⟩ := hcl3 (by omega)
              injection hAv3 with hAv3
              injection hAv3 with e4 e5 e6
              subst e4 e5
              have cl := hcl3 i _ (hvs_at hlt)
              rw [HK.out] at cl
              have cl : wr.cell? ⟨gv, ofv + i, none⟩ = some (.int .u64 ((k : Int) + 1)) := cl
              have hrow : wr.ownsRow B 86 3 ov go'.length (goV q go') := hM.each 8 _ rfl
              rw [HOV.out] at hrow
              have hk3 : k * 3 + 2 < go'.length * 3 := by have := hlk.out; omega
              have a2 := (hrow.cellAt (k * 3 + 2) hk3).trans (goV_at HY.out (j := 2) rfl)
              have f2 := hrow.frozenAt (k * 3 + 2)
              have x5 : wr.cell? ⟨X, 5, none⟩ = some (.slice (some ⟨gr, 0, none⟩) go'.length cr) := by rw [← HOV.out]; exact (hM.each 3 _ rfl).cell 5
              have hkg : k < go'.length := hlk.out
              have HRW := hid hrow
              have MI := hid hM
              clear hrow hM hk3 hcl3 hcv3 e3 e6 y6 fy6 hD
              go_wp2_with fail
              refine Mix.wp_region_mix (fun _ => True) (fun i => ([0, 0, 0, 0, 0, 0, 0, 0, 0, 0, 0, 2] : List Nat).getD i 0) [0, 1, 2, 3, 4, 5, 6, 7, 8, 9, 10, 11] (by kernel_rfl) (by kernel_rfl) ?_
              repeat (first | (refine Mix.mix_q (by simp only [List.getElem?_toArray, List.getElem?_cons_zero, List.getElem?_cons_succ]; exact rfl) rfl ?_; go_big_quiet_step (fail); refine wpQuiet_nil ?_) | (refine Mix.mix_p (by simp only [List.getElem?_toArray, List.getElem?_cons_zero, List.getElem?_cons_succ]; exact rfl) rfl rfl ?_; go_big_quiet_step (fail); refine wpQuiet_nil ?_))
              refine Mix.mix_e (by simp only [List.getElem?_toArray, List.getElem?_cons_zero, List.getElem?_cons_succ]; exact rfl) rfl fun Wa hWa => ?_
              obtain ⟨n5, rfl⟩ := hWa
              go_wp2_with fail
              intro n6
              have hfin := MI.out.upd (i := 8) (rowR B 86 3 go'.length ov (goV q (go'.set k (y.1, { y.2 with due := true })))) rfl (((Ch.refl (fun b => b = gr) wr).drewN n5).set (o := k * 3 + 2) (fun _ => rfl) (.bool true)) (fun b _ hb => by show ov.ownBlock = some b; rw [HOV.out]; exact congrArg some hb.symm) (by
                show World.ownsRow _ _ _ _ ov _ _
                rw [HOV.out, ← goV_set2 HY.out true]
                exact (World.ownsRow.stored (w := wr.drewN n5) HRW.out (k * 3 + 2) (.bool true)).1) (fun _ e => .inl e)
              have HFIN := hid (hfin.drewN n6)
              clear hfin a2 f2 x5 cl
              go_wp2_with fail
              go_roundw
              case rel =>
                refine ⟨i + 1, hi1, by go_num, go'.set k (y.1, { y.2 with due := true }), f && y.2.sl.all (fun b => !b), ?_, by rw [List.length_set]; exact hgl, HGO.out.set HY.out true, ?_⟩
                · rw [fold_succ hlt, ← HF.out, HK.out]
                  show _ = (mark _ _, f && okAt now _ _)
                  rw [okAt_go HY.out, HOKF.out, ← go_mark HY.out]
                · rw [goR_set HY.out, List.length_set]
                  exact HFIN.out
              case measure => simpa [intOf] using hme
        · have b3 : decide (now < y.2.ep + 2) = true := decide_eq_true (by omega)
          have HOKF := hid (show (f && okR now y.2) = (false && y.2.sl.all (fun b => !b)) by simp [okR, hdu, hep])
          clear hdu
          go_wp2_with fail
          have M7 := hid (show Mem B w0 (egL B p cb qb pb pr X lb n lv ov v0 v1 v2 ((lbCells v0 v1 v2).setIfInBounds j (.slice none 0 0)) s false ps ps' sc rsc scR (lim o 0 0) (lim o 0 1) (lim o 0 2) go'.length (goV n go') L9 (go'.map goR)) (W6.setCell ⟨X, 6, none⟩ (.bool false)) from M6.out.put (i := 3) rfl 6 (.bool false))
          have HD7 := hid (show Blk (W6.setCell ⟨X, 6, none⟩ (.bool false)) D 86 #[.int .u64 y.2.ep, .slice (some ⟨y.1, 0, none⟩) n n, .bool y.2.due] from HD6.out.far (by have := HDX.out; show D ≠ X; omega) _)
          clear p0 p2 y6 fy6 M6 HD6
          go_loopw [6] (fun i2 w2r => ∃ q : Nat, q ≤ n ∧ i2 = .int .i64 q ∧ Blk w2r D 86 #[.int .u64 y.2.ep, .slice (some ⟨y.1, 0, none⟩) n n, .bool y.2.due] ∧ Mem B w0 (egL B p cb qb pb pr X lb n lv ov v0 v1 v2 ((lbCells v0 v1 v2).setIfInBounds j (.slice none 0 0)) s (false && (y.2.sl.take q).all (fun b => !b)) ps ps' sc rsc scR (lim o 0 0) (lim o 0 1) (lim o 0 2) go'.length (goV n go') L9 (go'.map goR)) w2r) (fun i2 _ => n - (intOf i2).toNat)
          case atStart => exact ⟨0, Nat.zero_le _, rfl, HD7.out, by have := M7.out; simpa using this⟩
          case round =>
            obtain ⟨q, hq, rfl, hD, hM⟩ := hrel
            have z1 := hD.cell 1
            have y6 : wr.cell? ⟨X, 6, none⟩ = some (.bool (false && (y.2.sl.take q).all (fun b => !b))) := (hM.each 3 _ rfl).cell 6
            have fy6 := Blk.free (hM.each 3 _ rfl) 6
            by_cases hql : q < n
            · have d2 : decide (q < n) = true := decide_eq_true hql
              have d2' : decide ((q : Int) < (n : Int)) = true := decide_eq_true (by omega)
              have hqs : q < y.2.sl.length := by rw [HYS.out]; exact hql
              have hbl := hM.each (10 + n + k) _ (egL_atO (r := goR y) hL9 (by simp [HY.out]))
              have zb := (Blk.cell hbl q).trans (boolA_at hqs)
              have HALL := hid (all_take hqs)
              have MI := hid hM
              have HDI := hid hD
              clear hbl hM hD
              cases hb : y.2.sl[q]'hqs
              · rw [hb] at zb HALL
                have hb := hid hb
                go_wp2_with fail
                go_roundw
                case rel => exact ⟨q + 1, by omega, by go_num, HDI.out, by rw [HALL.out, Bool.not_false, Bool.and_true]; exact MI.out⟩
                case measure => simp [intOf]; omega
              · rw [hb] at zb HALL
                have hb := hid hb
                go_wp2_with fail
                go_roundw
                case rel => exact ⟨q + 1, by omega, by go_num, HDI.out.far (by have := HDX.out; show D ≠ X; omega) _, by rw [HALL.out]; simp only [Bool.not_true, Bool.and_false]; exact (show Mem B w0 (egL B p cb qb pb pr X lb n lv ov v0 v1 v2 ((lbCells v0 v1 v2).setIfInBounds j (.slice none 0 0)) s false ps ps' sc rsc scR (lim o 0 0) (lim o 0 1) (lim o 0 2) go'.length (goV n go') L9 (go'.map goR)) _ from MI.out.put (i := 3) rfl 6 (.bool false))⟩
                case measure => simp [intOf]; omega
            · have hqn : q = n := by omega
              subst hqn
              rw [List.take_of_length_le (by rw [HYS.out]; exact Nat.le_refl _)] at hM
              have d2 : decide (q < q) = false := decide_eq_false (by omega)
              have d2' : decide ((q : Int) < (q : Int)) = false := decide_eq_false (by omega)
              have hls3 := hs_of_own (show wr.ownsRow B 92 1 v (lim o 0 (j : Nat)).length (hvs (lim o 0 (j : Nat))) from hM.each (5 + j) _ (lim_row hj HV.out))
              rw [← HL.out, HVV.out] at hls3
              obtain ⟨Av3, cv3, hvv3, hcv3, hcl3⟩ := hls3
              injection hvv3 with e1 e2 e3
              subst e1
              obtain ⟨gv3, ofv3, hAv3, hcl3⟩ := hcl3 (by omega)
              injection hAv3 with hAv3
              injection hAv3 with e4 e5 e6
              subst e4 e5
              have cl := hcl3 i _ (hvs_at hlt)
              rw [HK.out] at cl
              have cl : wr.cell? ⟨gv, ofv + i, none⟩ = some (.int .u64 ((k : Int) + 1)) := cl
              have hrow : wr.ownsRow B 86 3 ov go'.length (goV q go') := hM.each 8 _ rfl
              rw [HOV.out] at hrow
              have hk3 : k * 3 + 2 < go'.length * 3 := by have := hlk.out; omega
              have a2 := (hrow.cellAt (k * 3 + 2) hk3).trans (goV_at HY.out (j := 2) rfl)
              have f2 := hrow.frozenAt (k * 3 + 2)
              have x5 : wr.cell? ⟨X, 5, none⟩ = some (.slice (some ⟨gr, 0, none⟩) go'.length cr) := by rw [← HOV.out]; exact (hM.each 3 _ rfl).cell 5
              have hkg : k < go'.length := hlk.out
              have HRW := hid hrow
              have MI := hid hM
              clear hrow hM hk3 hcl3 hcv3 e3 e6 y6 fy6 hD
              go_wp2_with fail
              refine Mix.wp_region_mix (fun _ => True) (fun i => ([0, 0, 0, 0, 0, 0, 0, 0, 0, 0, 0, 2] : List Nat).getD i 0) [0, 1, 2, 3, 4, 5, 6, 7, 8, 9, 10, 11] (by kernel_rfl) (by kernel_rfl) ?_
              repeat (first | (refine Mix.mix_q (by simp only [List.getElem?_toArray, List.getElem?_cons_zero, List.getElem?_cons_succ]; exact rfl) rfl ?_; go_big_quiet_step (fail); refine wpQuiet_nil ?_) | (refine Mix.mix_p (by simp only [List.getElem?_toArray, List.getElem?_cons_zero, List.getElem?_cons_succ]; exact rfl) rfl rfl ?_; go_big_quiet_step (fail); refine wpQuiet_nil ?_))
              refine Mix.mix_e (by simp only [List.getElem?_toArray, List.getElem?_cons_zero, List.getElem?_cons_succ]; exact rfl) rfl fun Wa hWa => ?_
              obtain ⟨n5, rfl⟩ := hWa
              go_wp2_with fail
              intro n6
              have hfin := MI.out.upd (i := 8) (rowR B 86 3 go'.length ov (goV q (go'.set k (y.1, { y.2 with due := true })))) rfl (((Ch.refl (fun b => b = gr) wr).drewN n5).set (o := k * 3 + 2) (fun _ => rfl) (.bool true)) (fun b _ hb => by show ov.ownBlock = some b; rw [HOV.out]; exact congrArg some hb.symm) (by
                show World.ownsRow _ _ _ _ ov _ _
                rw [HOV.out, ← goV_set2 HY.out true]
                exact (World.ownsRow.stored (w := wr.drewN n5) HRW.out (k * 3 + 2) (.bool true)).1) (fun _ e => .inl e)
              have HFIN := hid (hfin.drewN n6)
              clear hfin a2 f2 x5 cl
              go_wp2_with fail
              go_roundw
              case rel =>
                refine ⟨i + 1, hi1, by go_num, go'.set k (y.1, { y.2 with due := true }), false && y.2.sl.all (fun b => !b), ?_, by rw [List.length_set]; exact hgl, HGO.out.set HY.out true, ?_⟩
                · rw [fold_succ hlt, ← HF.out, HK.out]
                  show _ = (mark _ _, f && okAt now _ _)
                  rw [okAt_go HY.out, HOKF.out, ← go_mark HY.out]
                · rw [goR_set HY.out, List.length_set]
                  exact HFIN.out
              case measure => simpa [intOf] using hme
    · obtain rfl : i = l.length := by omega
      have d1 : decide (l.length < l.length) = false := decide_eq_false (by omega)
      have d1' : decide ((l.length : Int) < (l.length : Int)) = false := decide_eq_false (by omega)
      go_wp2_with fail
      go_end0
      rw [List.take_length] at hfold
      have hlj : l = lim o 0 (dueJ now) := by rw [HL.out, HJ.out]; rfl
      rw [hlj] at hfold
      have hfo := hfold
      rw [due_fold0] at hfo
      injection hfo with e1 e2
      obtain ⟨u0, u1, u2, hc⟩ := due_close hj (by rw [e1, HJ.out]; rfl) hM
      exact ⟨rfl, u0, u1, u2, go', f, hfold, hgl, hgo, hc⟩
end Go.Proofs.Ytokcodeeaneeaaa
