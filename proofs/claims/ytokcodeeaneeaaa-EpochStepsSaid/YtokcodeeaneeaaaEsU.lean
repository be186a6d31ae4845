/- EpochSteps: what each call does to the memory. -/
import Derived.Test.YtokcodeeaneeaaaEsM
namespace Go.Proofs.Ytokcodeeaneeaaa
open Go.RowKit
set_option linter.unusedVariables false
set_option linter.unusedSimpArgs false
set_option linter.unusedSectionVars false

section
variable {B p cb qb pb rp vb rq stb A0 A1 n M k g g' : Nat} {sl : Int} {lv lv' mv mv' : Value} {s s' : BS} {q q' : Pn} {l : Bool} {gp : List Slot} {gs : Scn} {w0 w w1 w2 w' : World}
/-- A pin was begun. -/
theorem RunE.pinI (h : RunE B p cb qb pb rp vb rq stb A0 A1 n M sl lv mv s gp gs w0 w) (hk : k < n) (hb : Blk w1 g 117 (pnCells qb g q)) (hp : Blk w1 pb 45 (pinsA ((psOf gp).set k (some g)))) (c : Ch (fun b => b = pb) w w1) (hg : w.heap.size ≤ g) :
    Mem B w0 (eL B p cb qb pb rp vb rq stb A0 A1 n sl lv mv s s ((psOf gp).set k (some g)) (stOf gp) (arrI gp) (arrR gp) (scV gs) (scnOf gs) (scRes qb gs) (rscRes rq gs) ((gp.map (pinRes qb)).set k (blkR g 117 (pnCells qb g q))) (gp.map (rpinRes rq))) w1 := by
  have hl := h.len
  obtain ⟨o, ho⟩ : ∃ o, gp[k]? = some o := ⟨_, List.getElem?_eq_getElem (by omega)⟩
  have t := h.mem.upd2 (i := 7 + k) (j := 1) (blkR g 117 (pnCells qb g q)) (blkR pb 45 (pinsA ((psOf gp).set k (some g)))) (eL_at7 (x := pinRes qb o) (by simp [ho])) rfl (by omega) c (fun _ _ e => .inr e) hb hp (fun i hi => .inr (by rw [show i = g from hi]; exact hg)) (fun i hi => hi)
  rw [eL_set7 (by simp; omega)] at t
  exact t
theorem RunE.pinR (h : RunE B p cb qb pb rp vb rq stb A0 A1 n M sl lv mv s gp gs w0 w) (hk : k < n) {ps' : List (Option Nat)} {L7' : List Res} (hL : L7'.length = n) (m : Mem B w0 (eL B p cb qb pb rp vb rq stb A0 A1 n sl lv mv s s ps' (stOf gp) (arrI gp) (arrR gp) (scV gs) (scnOf gs) (scRes qb gs) (rscRes rq gs) L7' (gp.map (rpinRes rq))) w1)
    (hr : REpM B w2 rp vb rq stb mv s (lawE n) sl ((stOf gp).set k 1) (scnOf gs)) (hb : Blk w2 g' 120 (rpnCells rq q)) (c : Ch (fun b => b = stb) w1 w2) (hg : w1.heap.size ≤ g') :
    Mem B w0 (eL B p cb qb pb rp vb rq stb A0 A1 n sl lv mv s s ps' ((stOf gp).set k 1) (arrI gp) (arrR gp) (scV gs) (scnOf gs) (scRes qb gs) (rscRes rq gs) L7' ((gp.map (rpinRes rq)).set k (blkR g' 120 (rpnCells rq q)))) w2 := by
  have hl := h.len
  obtain ⟨o, ho⟩ : ∃ o, gp[k]? = some o := ⟨_, List.getElem?_eq_getElem (by omega)⟩
  have t := m.upd2 (i := 7 + n + k) (j := 2) (blkR g' 120 (rpnCells rq q)) (refR B rp vb rq stb mv s (lawE n) sl ((stOf gp).set k 1) (scnOf gs)) (eL_at8 hL (x := rpinRes rq o) (by simp [ho])) rfl (by omega) c (fun _ _ e => .inr (.inr (.inr e))) hb hr (fun i hi => .inr (by rw [show i = g' from hi]; exact hg)) (fun i hi => hi)
  rw [eL_set8 hL] at t
  exact t
theorem RunE.begun (h : RunE B p cb qb pb rp vb rq stb A0 A1 n M sl lv mv s gp gs w0 w) (hk : k < n) (hq : q.slot = k ∧ (0 ≤ q.t ∧ q.t < 16) ∧ q.ph = 9)
    (m : Mem B w0 (eL B p cb qb pb rp vb rq stb A0 A1 n sl lv mv s s ((psOf gp).set k (some g)) ((stOf gp).set k 1) ((arrI gp).setIfInBounds k (.pointer (some ⟨g, 0, none⟩))) ((arrR gp).setIfInBounds k (.pointer (some ⟨g', 0, none⟩))) (scV gs) (scnOf gs) (scRes qb gs) (rscRes rq gs) ((gp.map (pinRes qb)).set k (blkR g 117 (pnCells qb g q))) ((gp.map (rpinRes rq)).set k (blkR g' 120 (rpnCells rq q)))) w') :
    RunE B p cb qb pb rp vb rq stb A0 A1 n M sl lv mv s (gp.set k (some (g, g', q, true))) gs w0 w' := by
  have hl := h.len
  refine ⟨?_, by rw [List.length_set]; exact hl, h.n5, h.lg, h.hM, fun j a b r l hj => ?_, h.sc⟩
  · have e1 : psOf (gp.set k (some (g, g', q, true))) = (psOf gp).set k (some g) := by rw [psOf, List.map_set]; try rfl
    have e2 : stOf (gp.set k (some (g, g', q, true))) = (stOf gp).set k 1 := by
      rw [stOf, List.map_set]
      show (gp.map Slot.st).set k (if q.ph = 0 then 2 else 1) = _
      rw [if_neg (by rw [hq.2.2]; decide)]; rfl
    have e3 := arrI_set gp k (by omega) (some (g, g', q, true))
    have e4 := arrR_set gp k (by omega) (some (g, g', q, true))
    rw [e1, e2, ← e3, ← e4, List.map_set, List.map_set]
    exact m
  · rw [List.getElem?_set] at hj
    split at hj
    · rename_i e
      split at hj
      · obtain ⟨rfl, rfl, rfl, rfl⟩ : g = a ∧ g' = b ∧ q = r ∧ true = l := by
          have := Option.some.inj (Option.some.inj hj)
          injection this with t1 t2
          injection t2 with t2 t3
          injection t3 with t3 t4
          exact ⟨t1, t2, t3, t4⟩
        subst e
        exact ⟨hq.1, hq.2.1, .inr (.inl hq.2.2), fun e => by cases e⟩
      · cases hj
    · exact h.pn j a b r l hj

/-- A pin was stepped. -/
theorem RunE.stepI (h : RunE B p cb qb pb rp vb rq stb A0 A1 n M sl lv mv s gp gs w0 w) (hk : gp[k]? = some (some (g, g', q, l))) (hM : EpochM B w1 p cb qb lv' s' (lawE n) (pinsV pb n) (scV gs)) (hb : Blk w1 g 117 (pnCells qb g q')) (c : Ch (fun b => FP p cb lv b ∨ b = g) w w1) (hf : Fresh w lv lv') :
    Mem B w0 (eL B p cb qb pb rp vb rq stb A0 A1 n sl lv' mv s' s (psOf gp) (stOf gp) (arrI gp) (arrR gp) (scV gs) (scnOf gs) (scRes qb gs) (rscRes rq gs) ((gp.map (pinRes qb)).set k (blkR g 117 (pnCells qb g q'))) (gp.map (rpinRes rq))) w1 := by
  have hl := h.len
  have hkl := (List.getElem?_eq_some_iff.1 hk).1
  have t := h.mem.upd2 (i := 0) (j := 7 + k) (epochR B p cb qb lv' s' (lawE n) (pinsV pb n) (scV gs)) (blkR g 117 (pnCells qb g q')) rfl (eL_at7 (x := (blkR g 117 (pnCells qb g q))) (by simp [hk, pinRes])) (by omega) c (fun i _ e => e.imp (fun e => .inl e) id) hM hb (fun i hi => fp_new hf hi) (fun i hi => hi)
  have e0 : ((eL B p cb qb pb rp vb rq stb A0 A1 n sl lv mv s s (psOf gp) (stOf gp) (arrI gp) (arrR gp) (scV gs) (scnOf gs) (scRes qb gs) (rscRes rq gs) (gp.map (pinRes qb)) (gp.map (rpinRes rq))).set 0 (epochR B p cb qb lv' s' (lawE n) (pinsV pb n) (scV gs))) = eL B p cb qb pb rp vb rq stb A0 A1 n sl lv' mv s' s (psOf gp) (stOf gp) (arrI gp) (arrR gp) (scV gs) (scnOf gs) (scRes qb gs) (rscRes rq gs) (gp.map (pinRes qb)) (gp.map (rpinRes rq)) := rfl
  rw [e0, eL_set7 (by simp; omega)] at t
  exact t
theorem RunE.stepR (h : RunE B p cb qb pb rp vb rq stb A0 A1 n M sl lv mv s gp gs w0 w) (hk : gp[k]? = some (some (g, g', q, l))) {L7' : List Res} (hL : L7'.length = n) {st' : List Int} {scn' : Bool} {sc' : Value} {r5' : Res} (m : Mem B w0 (eL B p cb qb pb rp vb rq stb A0 A1 n sl lv' mv s' s (psOf gp) (stOf gp) (arrI gp) (arrR gp) sc' (scnOf gs) r5' (rscRes rq gs) L7' (gp.map (rpinRes rq))) w1)
    (hr : REpM B w2 rp vb rq stb mv' s' (lawE n) sl st' (scnOf gs)) (hb : Blk w2 g' 120 (rpnCells rq q')) (c : Ch (fun b => FP rp vb mv b ∨ b = rq ∨ b = stb ∨ b = g') w1 w2) (hf : Fresh w1 mv mv') :
    Mem B w0 (eL B p cb qb pb rp vb rq stb A0 A1 n sl lv' mv' s' s' (psOf gp) st' (arrI gp) (arrR gp) sc' (scnOf gs) r5' (rscRes rq gs) L7' ((gp.map (rpinRes rq)).set k (blkR g' 120 (rpnCells rq q')))) w2 := by
  have hl := h.len
  have hkl := (List.getElem?_eq_some_iff.1 hk).1
  have t := m.upd2 (i := 2) (j := 7 + n + k) (refR B rp vb rq stb mv' s' (lawE n) sl st' (scnOf gs)) (blkR g' 120 (rpnCells rq q')) rfl (eL_at8 hL (x := (blkR g' 120 (rpnCells rq q))) (by simp [hk, rpinRes])) (by omega) c (fun i _ e => by
    rcases e with e | e | e | e
    · exact .inl (.inl e)
    · exact .inl (.inr (.inl e))
    · exact .inl (.inr (.inr e))
    · exact .inr e) hr hb (fun i hi => rfp_new hf hi) (fun i hi => hi)
  have e0 : ((eL B p cb qb pb rp vb rq stb A0 A1 n sl lv' mv s' s (psOf gp) (stOf gp) (arrI gp) (arrR gp) sc' (scnOf gs) r5' (rscRes rq gs) L7' (gp.map (rpinRes rq))).set 2 (refR B rp vb rq stb mv' s' (lawE n) sl st' (scnOf gs))) = eL B p cb qb pb rp vb rq stb A0 A1 n sl lv' mv' s' s' (psOf gp) st' (arrI gp) (arrR gp) sc' (scnOf gs) r5' (rscRes rq gs) L7' (gp.map (rpinRes rq)) := rfl
  rw [e0, eL_set8 hL] at t
  exact t
theorem RunE.stepped (h : RunE B p cb qb pb rp vb rq stb A0 A1 n M sl lv mv s gp gs w0 w) (hk : gp[k]? = some (some (g, g', q, l))) (hl' : s'.lg.length ≤ M + 1) (hM : M + 1 ≤ 500000) (e1 : (pnstep s (lawE n) q).2 = q')
    (m : Mem B w0 (eL B p cb qb pb rp vb rq stb A0 A1 n sl lv' mv' s' s' (psOf gp) (if q.ph = 10 then (stOf gp).set k 2 else stOf gp) (arrI gp) (arrR gp) (scV gs) (scnOf gs) (scRes qb gs) (rscRes rq gs) ((gp.map (pinRes qb)).set k (blkR g 117 (pnCells qb g q'))) ((gp.map (rpinRes rq)).set k (blkR g' 120 (rpnCells rq q')))) w') :
    RunE B p cb qb pb rp vb rq stb A0 A1 n (M + 1) sl lv' mv' s' (gp.set k (some (g, g', q', l))) gs w0 w' := by
  have hl := h.len
  obtain ⟨p1, p2, p3, p4⟩ := h.pn k g g' q l hk
  have hq' : q'.slot = q.slot ∧ q'.t = q.t ∧ (q.ph = 0 → q'.ph = 0) ∧ (q.ph = 9 → q'.ph = 10) ∧ (q.ph = 10 → q'.ph = 0) := by
    rw [← e1]
    unfold pnstep
    rcases p3 with e | e | e
    · rw [if_neg (by rw [e]; decide), if_neg (by rw [e]; decide)]
      exact ⟨rfl, rfl, fun e => e, fun c => absurd (e.symm.trans c) (by decide), fun c => absurd (e.symm.trans c) (by decide)⟩
    · rw [if_pos e]
      exact ⟨rfl, rfl, fun c => absurd (e.symm.trans c) (by decide), fun _ => rfl, fun c => absurd (e.symm.trans c) (by decide)⟩
    · rw [if_neg (by rw [e]; decide), if_pos e]
      exact ⟨rfl, rfl, fun c => absurd (e.symm.trans c) (by decide), fun c => absurd (e.symm.trans c) (by decide), fun _ => rfl⟩
  refine ⟨?_, by rw [List.length_set]; exact hl, h.n5, hl', hM, fun j a b r l2 hj => ?_, h.sc⟩
  · have a1 : psOf (gp.set k (some (g, g', q', l))) = psOf gp := by
      rw [psOf, List.map_set]
      exact set_selfE _ _ _ (by rw [List.getElem?_map, hk]; cases l <;> rfl)
    have a2 : stOf (gp.set k (some (g, g', q', l))) = if q.ph = 10 then (stOf gp).set k 2 else stOf gp := by
      rw [stOf, List.map_set]
      cases l with
      | false =>
        rw [if_neg (by rw [p4 rfl]; decide)]
        exact set_selfE _ _ _ (by rw [List.getElem?_map, hk]; rfl)
      | true =>
        rcases p3 with e | e | e
        · rw [if_neg (by rw [e]; decide)]
          refine set_selfE _ _ _ ?_
          rw [List.getElem?_map, hk]
          show some (if q.ph = 0 then (2 : Int) else 1) = some (if q'.ph = 0 then (2 : Int) else 1)
          rw [if_pos e, if_pos (hq'.2.2.1 e)]
        · rw [if_neg (by rw [e]; decide)]
          refine set_selfE _ _ _ ?_
          rw [List.getElem?_map, hk]
          show some (if q.ph = 0 then (2 : Int) else 1) = some (if q'.ph = 0 then (2 : Int) else 1)
          rw [if_neg (by rw [e]; decide), if_neg (by rw [hq'.2.2.2.1 e]; decide)]
        · rw [if_pos e]
          show (gp.map Slot.st).set k (if q'.ph = 0 then (2 : Int) else 1) = _
          rw [if_pos (hq'.2.2.2.2 e)]
          try rfl
    have a3 := arrI_same gp k _ (some (g, g', q', l)) hk rfl
    have a4 := arrR_same gp k _ (some (g, g', q', l)) hk rfl
    rw [a1, a2, a3, a4, List.map_set, List.map_set]
    exact m
  · rw [List.getElem?_set] at hj
    split at hj
    · rename_i e
      split at hj
      · obtain ⟨rfl, rfl, rfl, rfl⟩ : g = a ∧ g' = b ∧ q' = r ∧ l = l2 := by
          have := Option.some.inj (Option.some.inj hj)
          injection this with t1 t2
          injection t2 with t2 t3
          injection t3 with t3 t4
          exact ⟨t1, t2, t3, t4⟩
        subst e
        refine ⟨by rw [hq'.1]; exact p1, by rw [hq'.2.1]; exact p2, ?_, fun c => hq'.2.2.1 (p4 c)⟩
        rcases p3 with e | e | e
        · exact .inl (hq'.2.2.1 e)
        · exact .inr (.inr (hq'.2.2.2.1 e))
        · exact .inl (hq'.2.2.2.2 e)
      · cases hj
    · exact h.pn j a b r l2 hj

/-- A slot was cleared. -/
theorem RunE.unpI (h : RunE B p cb qb pb rp vb rq stb A0 A1 n M sl lv mv s gp gs w0 w) (hk : gp[k]? = some (some (g, g', q, true))) (hM : EpochM B w1 p cb qb lv' s' (lawE n) (pinsV pb n) (scV gs)) (hp : Blk w1 pb 45 (pinsA ((psOf gp).set k none))) (c : Ch (fun b => FP p cb lv b ∨ b = pb) w w1) (hf : Fresh w lv lv') :
    Mem B w0 (eL B p cb qb pb rp vb rq stb A0 A1 n sl lv' mv s' s ((psOf gp).set k none) (stOf gp) (arrI gp) (arrR gp) (scV gs) (scnOf gs) (scRes qb gs) (rscRes rq gs) (gp.map (pinRes qb)) (gp.map (rpinRes rq))) w1 :=
  h.mem.upd2 (i := 0) (j := 1) (epochR B p cb qb lv' s' (lawE n) (pinsV pb n) (scV gs)) (blkR pb 45 (pinsA ((psOf gp).set k none))) rfl rfl (by decide) c (fun i _ e => e.imp (fun e => .inl e) id) hM hp (fun i hi => fp_new hf hi) (fun i hi => hi)
theorem RunE.unpR (m : Mem B w0 (eL B p cb qb pb rp vb rq stb A0 A1 n sl lv' mv s' s ((psOf gp).set k none) (stOf gp) (arrI gp) (arrR gp) (scV gs) (scnOf gs) (scRes qb gs) (rscRes rq gs) (gp.map (pinRes qb)) (gp.map (rpinRes rq))) w1) (hr : REpM B w2 rp vb rq stb mv' s' (lawE n) sl ((stOf gp).set k 0) (scnOf gs)) (c : Ch (fun b => FP rp vb mv b ∨ b = stb) w1 w2) (hf : Fresh w1 mv mv') :
    Mem B w0 (eL B p cb qb pb rp vb rq stb A0 A1 n sl lv' mv' s' s' ((psOf gp).set k none) ((stOf gp).set k 0) (arrI gp) (arrR gp) (scV gs) (scnOf gs) (scRes qb gs) (rscRes rq gs) (gp.map (pinRes qb)) (gp.map (rpinRes rq))) w2 :=
  m.upd (i := 2) (refR B rp vb rq stb mv' s' (lawE n) sl ((stOf gp).set k 0) (scnOf gs)) rfl c (fun i _ e => e.imp id (fun e => .inr e)) hr (fun i hi => rfp_new hf hi)
theorem RunE.unpinned (h : RunE B p cb qb pb rp vb rq stb A0 A1 n M sl lv mv s gp gs w0 w) (hk : gp[k]? = some (some (g, g', q, true))) (h0 : q.ph = 0) (hl' : s'.lg.length ≤ M + 1) (hM : M + 1 ≤ 500000)
    (m : Mem B w0 (eL B p cb qb pb rp vb rq stb A0 A1 n sl lv' mv' s' s' ((psOf gp).set k none) ((stOf gp).set k 0) (arrI gp) (arrR gp) (scV gs) (scnOf gs) (scRes qb gs) (rscRes rq gs) (gp.map (pinRes qb)) (gp.map (rpinRes rq))) w') :
    RunE B p cb qb pb rp vb rq stb A0 A1 n (M + 1) sl lv' mv' s' (gp.set k (some (g, g', q, false))) gs w0 w' := by
  have hl := h.len
  obtain ⟨p1, p2, p3, p4⟩ := h.pn k g g' q true hk
  refine ⟨?_, by rw [List.length_set]; exact hl, h.n5, hl', hM, fun j a b r l2 hj => ?_, h.sc⟩
  · have a1 : psOf (gp.set k (some (g, g', q, false))) = (psOf gp).set k none := by rw [psOf, List.map_set]; try rfl
    have a2 : stOf (gp.set k (some (g, g', q, false))) = (stOf gp).set k 0 := by rw [stOf, List.map_set]; try rfl
    have a3 := arrI_same gp k _ (some (g, g', q, false)) hk rfl
    have a4 := arrR_same gp k _ (some (g, g', q, false)) hk rfl
    have a5 : (gp.set k (some (g, g', q, false))).map (pinRes qb) = gp.map (pinRes qb) := by
      rw [List.map_set]
      exact set_selfE _ _ _ (by rw [List.getElem?_map, hk]; rfl)
    have a6 : (gp.set k (some (g, g', q, false))).map (rpinRes rq) = gp.map (rpinRes rq) := by
      rw [List.map_set]
      exact set_selfE _ _ _ (by rw [List.getElem?_map, hk]; rfl)
    rw [a1, a2, a3, a4, a5, a6]
    exact m
  · rw [List.getElem?_set] at hj
    split at hj
    · rename_i e
      split at hj
      · obtain ⟨rfl, rfl, rfl, rfl⟩ : g = a ∧ g' = b ∧ q = r ∧ false = l2 := by
          have := Option.some.inj (Option.some.inj hj)
          injection this with t1 t2
          injection t2 with t2 t3
          injection t3 with t3 t4
          exact ⟨t1, t2, t3, t4⟩
        subst e
        exact ⟨p1, p2, p3, fun _ => h0⟩
      · cases hj
    · exact h.pn j a b r l2 hj
end

section
variable {B p cb qb pb rp vb rq stb A0 A1 n M g g' : Nat} {sl a a' : Int} {lv lv' mv mv' : Value} {s s' : BS} {q q' : Sn} {gp : List Slot} {gs : Scn} {w0 w w1 w2 w' : World}
/-- A scan was begun. -/
theorem RunE.scanI (h : RunE B p cb qb pb rp vb rq stb A0 A1 n M sl lv mv s gp gs w0 w) (hM : EpochM B w1 p cb qb lv s (lawE n) (pinsV pb n) (.pointer (some ⟨g, 0, none⟩))) (hb : Blk w1 g 124 (snCells qb g q)) (c : Ch (fun b => b = qb) w w1) (hg : w.heap.size ≤ g) :
    Mem B w0 (eL B p cb qb pb rp vb rq stb A0 A1 n sl lv mv s s (psOf gp) (stOf gp) (arrI gp) (arrR gp) (.pointer (some ⟨g, 0, none⟩)) (scnOf gs) (blkR g 124 (snCells qb g q)) (rscRes rq gs) (gp.map (pinRes qb)) (gp.map (rpinRes rq))) w1 :=
  h.mem.upd2 (i := 5) (j := 0) (blkR g 124 (snCells qb g q)) (epochR B p cb qb lv s (lawE n) (pinsV pb n) (.pointer (some ⟨g, 0, none⟩))) rfl rfl (by decide) c (fun i _ e => .inr (.inr e)) hb hM (fun i hi => .inr (by rw [show i = g from hi]; exact hg)) (fun i hi => hi)
theorem RunE.scanR (m : Mem B w0 (eL B p cb qb pb rp vb rq stb A0 A1 n sl lv mv s s (psOf gp) (stOf gp) (arrI gp) (arrR gp) (.pointer (some ⟨g, 0, none⟩)) (scnOf gs) (blkR g 124 (snCells qb g q)) (rscRes rq gs) (gp.map (pinRes qb)) (gp.map (rpinRes rq))) w1) (hr : REpM B w2 rp vb rq stb mv s (lawE n) sl (stOf gp) true) (hb : Blk w2 g' 126 (rsnCells rq q a)) (c : Ch (fun b => b = rq) w1 w2) (hg : w1.heap.size ≤ g') :
    Mem B w0 (eL B p cb qb pb rp vb rq stb A0 A1 n sl lv mv s s (psOf gp) (stOf gp) (arrI gp) (arrR gp) (.pointer (some ⟨g, 0, none⟩)) true (blkR g 124 (snCells qb g q)) (blkR g' 126 (rsnCells rq q a)) (gp.map (pinRes qb)) (gp.map (rpinRes rq))) w2 :=
  m.upd2 (i := 6) (j := 2) (blkR g' 126 (rsnCells rq q a)) (refR B rp vb rq stb mv s (lawE n) sl (stOf gp) true) rfl rfl (by decide) c (fun i _ e => .inr (.inr (.inl e))) hb hr (fun i hi => .inr (by rw [show i = g' from hi]; exact hg)) (fun i hi => hi)
theorem RunE.scanned (h : RunE B p cb qb pb rp vb rq stb A0 A1 n M sl lv mv s gp gs w0 w) (hq : (0 ≤ q.t ∧ q.t < 16) ∧ ((q.ph = 34 ∧ q.at' < n ∧ a = q.at') ∨ q.ph = 35))
    (m : Mem B w0 (eL B p cb qb pb rp vb rq stb A0 A1 n sl lv mv s s (psOf gp) (stOf gp) (arrI gp) (arrR gp) (.pointer (some ⟨g, 0, none⟩)) true (blkR g 124 (snCells qb g q)) (blkR g' 126 (rsnCells rq q a)) (gp.map (pinRes qb)) (gp.map (rpinRes rq))) w') : RunE B p cb qb pb rp vb rq stb A0 A1 n M sl lv mv s gp (some (g, g', q, a)) w0 w' := by
  have hz : (q.ph != 0) = true := by
    rw [bne_iff_ne]
    rcases hq.2 with ⟨e, _⟩ | e <;> rw [e] <;> decide
  refine ⟨?_, h.len, h.n5, h.lg, h.hM, h.pn, fun x y r b he => ?_⟩
  · have e1 : scnOf (some (g, g', q, a)) = true := hz
    rw [e1]
    exact m
  · obtain ⟨rfl, rfl, rfl, rfl⟩ : g = x ∧ g' = y ∧ q = r ∧ a = b := by
      have := Option.some.inj he
      injection this with t1 t2
      injection t2 with t2 t3
      injection t3 with t3 t4
      exact ⟨t1, t2, t3, t4⟩
    exact ⟨hq.1, .inr hq.2⟩
/-- A scan was stepped. -/
theorem RunE.sstepI (h : RunE B p cb qb pb rp vb rq stb A0 A1 n M sl lv mv s gp gs w0 w) (hgs : gs = some (g, g', q, a)) (hM : EpochM B w1 p cb qb lv' s' (lawE n) (pinsV pb n) (scV gs)) (hb : Blk w1 g 124 (snCells qb g q')) (c : Ch (fun b => FP p cb lv b ∨ b = g) w w1) (hf : Fresh w lv lv') :
    Mem B w0 (eL B p cb qb pb rp vb rq stb A0 A1 n sl lv' mv s' s (psOf gp) (stOf gp) (arrI gp) (arrR gp) (scV gs) (scnOf gs) (blkR g 124 (snCells qb g q')) (rscRes rq gs) (gp.map (pinRes qb)) (gp.map (rpinRes rq))) w1 := by
  subst hgs
  exact h.mem.upd2 (i := 0) (j := 5) (epochR B p cb qb lv' s' (lawE n) (pinsV pb n) (scV (some (g, g', q, a)))) (blkR g 124 (snCells qb g q')) rfl rfl (by decide) c (fun i _ e => e.imp (fun e => .inl e) id) hM hb (fun i hi => fp_new hf hi) (fun i hi => hi)
theorem RunE.sstepR (hgs : gs = some (g, g', q, a)) {r5' : Res} {scn' : Bool} (m : Mem B w0 (eL B p cb qb pb rp vb rq stb A0 A1 n sl lv' mv s' s (psOf gp) (stOf gp) (arrI gp) (arrR gp) (scV gs) (scnOf gs) r5' (rscRes rq gs) (gp.map (pinRes qb)) (gp.map (rpinRes rq))) w1)
    (hr : REpM B w2 rp vb rq stb mv' s' (lawE n) sl (stOf gp) scn') (hb : Blk w2 g' 126 (rsnCells rq q' a')) (c : Ch (fun b => FP rp vb mv b ∨ b = rq ∨ b = stb ∨ b = g') w1 w2) (hf : Fresh w1 mv mv') :
    Mem B w0 (eL B p cb qb pb rp vb rq stb A0 A1 n sl lv' mv' s' s' (psOf gp) (stOf gp) (arrI gp) (arrR gp) (scV gs) scn' r5' (blkR g' 126 (rsnCells rq q' a')) (gp.map (pinRes qb)) (gp.map (rpinRes rq))) w2 := by
  subst hgs
  exact m.upd2 (i := 2) (j := 6) (refR B rp vb rq stb mv' s' (lawE n) sl (stOf gp) scn') (blkR g' 126 (rsnCells rq q' a')) rfl rfl (by decide) c (fun i _ e => by
    rcases e with e | e | e | e
    · exact .inl (.inl e)
    · exact .inl (.inr (.inl e))
    · exact .inl (.inr (.inr e))
    · exact .inr e) hr hb (fun i hi => rfp_new hf hi) (fun i hi => hi)
theorem RunE.sstepped (h : RunE B p cb qb pb rp vb rq stb A0 A1 n M sl lv mv s gp gs w0 w) (hgs : gs = some (g, g', q, a)) (hl' : s'.lg.length ≤ M + 1) (hM : M + 1 ≤ 500000) (e1 : (snstep s (lawE n) q).2 = q') (ha : q'.ph = 34 → a' = q'.at')
    (m : Mem B w0 (eL B p cb qb pb rp vb rq stb A0 A1 n sl lv' mv' s' s' (psOf gp) (stOf gp) (arrI gp) (arrR gp) (scV gs) (q'.ph != 0) (blkR g 124 (snCells qb g q')) (blkR g' 126 (rsnCells rq q' a')) (gp.map (pinRes qb)) (gp.map (rpinRes rq))) w') :
    RunE B p cb qb pb rp vb rq stb A0 A1 n (M + 1) sl lv' mv' s' gp (some (g, g', q', a')) w0 w' := by
  subst hgs
  obtain ⟨p1, p2⟩ := h.sc g g' q a rfl
  have hq' : q'.t = q.t ∧ (q'.ph = 0 ∨ (q'.ph = 34 ∧ q'.at' < n) ∨ q'.ph = 35) := by
    rw [← e1]
    unfold snstep
    rcases p2 with e | ⟨e, e2, _⟩ | e
    · rw [if_neg (by rw [e]; decide), if_neg (by rw [e]; decide)]
      exact ⟨rfl, .inl e⟩
    · rw [if_pos e]
      split
      · exact ⟨rfl, .inl rfl⟩
      · refine ⟨rfl, ?_⟩
        by_cases hb : q.at' + 1 < (lawE n).n
        · right; left
          exact ⟨if_pos hb, hb⟩
        · right; right
          exact if_neg hb
    · rw [if_neg (by rw [e]; decide), if_pos e]
      exact ⟨rfl, .inl rfl⟩
  refine ⟨m, h.len, h.n5, hl', hM, h.pn, fun x y r b he => ?_⟩
  obtain ⟨rfl, rfl, rfl, rfl⟩ : g = x ∧ g' = y ∧ q' = r ∧ a' = b := by
    have := Option.some.inj he
    injection this with t1 t2
    injection t2 with t2 t3
    injection t3 with t3 t4
    exact ⟨t1, t2, t3, t4⟩
  refine ⟨by rw [hq'.1]; exact p1, ?_⟩
  rcases hq'.2 with e | ⟨e, e2⟩ | e
  · exact .inl e
  · exact .inr (.inl ⟨e, e2, ha e⟩)
  · exact .inr (.inr e)
end
end Go.Proofs.Ytokcodeeaneeaaa
