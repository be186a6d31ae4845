/- EpochSteps: the beginning, the events, quiet calls. -/
import Derived.Test.YtokcodeeaneeaaaEsU
import Derived.Test.YtokcodeeaneeaaaFrame
namespace Go.Proofs.Ytokcodeeaneeaaa
open Go.RowKit
set_option linter.unusedVariables false
set_option linter.unusedSimpArgs false
set_option linter.unusedSectionVars false

/-- An event. -/
structure EvE where
  d : Int
  t : Int
  k : Int
def EvE.cells (x : EvE) : List Value := [.int .u8 x.d, .int .i64 x.t, .int .i64 x.k]
def evEKs : List (Option IntKind) := [some .u8, some .i64, some .i64]
def EvE.ok (x : EvE) : Prop := (0 ≤ x.d ∧ x.d < 256) ∧ (-9223372036854775808 ≤ x.t ∧ x.t < 9223372036854775808) ∧ (-9223372036854775808 ≤ x.k ∧ x.k < 9223372036854775808)
theorem eve_of_fits {vs : List Value} (h : Fits evEKs vs) : ∃ x : EvE, vs = x.cells ∧ x.ok := by
  obtain ⟨hl, hf⟩ := h
  obtain ⟨v0, e0, n0, rfl, w0⟩ := hf 0 _ rfl
  obtain ⟨v1, e1, n1, rfl, w1⟩ := hf 1 _ rfl
  obtain ⟨v2, e2, n2, rfl, w2⟩ := hf 2 _ rfl
  refine ⟨⟨n0, n1, n2⟩, ?_, wf_u8 w0, wf_i64 w1, wf_i64 w2⟩
  match vs, hl with
  | [a, b, c], _ => simp at e0 e1 e2; simp [EvE.cells, e0, e1, e2]
/-- The events that came in. -/
def InEvE (w : World) (a : Option Addr) (n : Nat) (xs : List EvE) : Prop :=
  xs.length = n ∧ (∀ x ∈ xs, x.ok) ∧ (0 < n → ∃ b off, a = some ⟨b, off, none⟩ ∧ b < w.heap.size ∧ ∀ (i j : Nat) x v, xs[i]? = some x → x.cells[j]? = some v → w.cell? ⟨b, off + (i * 3 + j), none⟩ = some v)
theorem in_eve {w : World} {a : Option Addr} {n : Nat} {ls : List (List Value)} (h : InRows evEKs w a n ls) : ∃ xs, InEvE w a n xs := by
  obtain ⟨hl, hf, hc⟩ := h
  obtain ⟨xs, hxl, hx⟩ := exists_list (R := fun i (x : EvE) => ls[i]? = some x.cells ∧ x.ok) n (fun i hi => by
    have h0 : ls[i]? = some (ls[i]'(by omega)) := List.getElem?_eq_getElem (by omega)
    obtain ⟨x, hx, ho⟩ := eve_of_fits (hf _ (List.getElem_mem (by omega : i < ls.length)))
    exact ⟨x, by rw [h0, hx], ho⟩)
  refine ⟨xs, hxl, fun x hm => ?_, fun h0 => ?_⟩
  · obtain ⟨i, hi⟩ := List.getElem?_of_mem hm
    exact (hx i x hi).2
  · obtain ⟨b, off, rfl, hb, hcell⟩ := hc h0
    exact ⟨b, off, rfl, hb, fun i j x v hi hj => hcell i j _ v (hx i x hi).1 hj⟩

theorem Mem.addA {B : Nat} {w0 w : World} {L : List Res} (h : Mem B w0 L w) (r : Res) (h' : r.holds w) (ha : ∀ (i : Nat) (s : Res), L[i]? = some s → ∀ k, s.foot k → ¬ r.foot k) (hl : ∀ k, r.foot k → B ≤ k) : Mem B w0 (L ++ [r]) w := by
  refine ⟨fun j s hj => ?_, fun j j' s s' hj hj' hne k hs hs' => ?_, fun j s hj k hs => ?_, h.bel, h.bz⟩
  · rcases mem_app hj with ⟨_, rfl⟩ | hj
    · exact h'
    · exact h.each j s hj
  · rcases mem_app hj with ⟨rfl, rfl⟩ | hj1
    · rcases mem_app hj' with ⟨rfl, _⟩ | hj2
      · exact hne rfl
      · exact ha j' s' hj2 k hs' hs
    · rcases mem_app hj' with ⟨rfl, rfl⟩ | hj2
      · exact ha j s hj1 k hs hs'
      · exact h.apart j j' s s' hj1 hj2 hne k hs hs'
  · rcases mem_app hj with ⟨_, rfl⟩ | hj
    · exact hl k hs
    · exact h.low j s hj k hs
theorem Mem.addP {B : Nat} {w0 w : World} : ∀ (L' : List Res) {L : List Res}, Mem B w0 L w → (∀ r ∈ L', r = pureR True) → Mem B w0 (L ++ L') w
  | [], L, h, _ => by rw [List.append_nil]; exact h
  | r :: L', L, h, hp => by
    have e := hp r (List.mem_cons_self ..)
    subst e
    have t := Mem.addP L' (h.addA (pureR True) trivial (fun _ _ _ _ _ hk => hk) (fun _ hk => hk.elim)) (fun r hr => hp r (List.mem_cons_of_mem _ hr))
    rwa [List.append_assoc] at t
theorem foot3 {a b c d e : Res} {P : Res → Prop} (L : List Res) (h : ∀ r ∈ L, P r) : ∀ (i : Nat) (s : Res), L[i]? = some s → P s := fun i s hi => h s (List.mem_of_getElem? hi)

theorem psOf_nil (n : Nat) : psOf (List.replicate n none) = List.replicate n none := by simp [psOf, Slot.ps]
theorem stOf_nil (n : Nat) : stOf (List.replicate n none) = List.replicate n 0 := by simp [stOf, Slot.st]
theorem rep_get (n k : Nat) : ((List.replicate n (none : Slot))[k]?).getD none = none := by
  rw [List.getElem?_replicate]; split <;> rfl
theorem arrI_nil (n : Nat) : arrI (List.replicate n none) = #[.pointer none, .pointer none, .pointer none, .pointer none, .pointer none] := by
  unfold arrI
  simp only [rep_get]; rfl
theorem arrR_nil (n : Nat) : arrR (List.replicate n none) = #[.pointer none, .pointer none, .pointer none, .pointer none, .pointer none] := by
  unfold arrR
  simp only [rep_get]; rfl
theorem madeX_rep (v : Value) (n : Nat) : madeX #[v] n = (List.replicate n v).toArray := by
  unfold madeX madeCells
  apply Array.ext (by simp)
  intro i h1 h2
  simp [Nat.mod_one]
theorem eerr_fresh (n : Nat) (h : n ≤ 5) : eerr (List.replicate (n + 2) 0) ((n : Int) + 1) 1 n = 0 := by
  have hz : ∀ c, lk (List.replicate (n + 2) (0 : Int)) c = 0 := by
    intro c
    simp only [lk, List.getD_eq_getElem?_getD, List.getElem?_replicate]
    split <;> rfl
  unfold eerr
  rw [List.length_replicate, if_neg (by omega), if_neg (fun e => e ⟨⟨by omega, by omega⟩, by omega⟩), if_neg (by omega), if_neg]
  rintro (e | ⟨j, _, _, hj⟩)
  · exact e (hz _)
  · exact hj (hz j)

/-- The beginning. -/
theorem esm_init {B p cb qb pb rp vb rq stb A0 A1 n : Nat} {sl : Int} {w0 w : World} (hn : n ≤ 5) (hB : B ≤ w.heap.size) (hbel : Below B w0 w)
    (hE : EpochM B w p cb qb (.slice none 0 0) ⟨List.replicate (n + 2) 0, []⟩ (lawE n) (pinsV pb n) (.pointer none)) (hP : Blk w pb 45 (pinsA (List.replicate n none)))
    (hR : REpM B w rp vb rq stb (.slice none 0 0) ⟨List.replicate (n + 2) 0, []⟩ (lawE n) sl (List.replicate n 0) false)
    (h0 : Blk w A0 46 #[.pointer none, .pointer none, .pointer none, .pointer none, .pointer none]) (h1 : Blk w A1 48 #[.pointer none, .pointer none, .pointer none, .pointer none, .pointer none])
    (bp : B ≤ pb) (b0 : B ≤ A0) (b1 : B ≤ A1) : RunE B p cb qb pb rp vb rq stb A0 A1 n 0 sl (.slice none 0 0) (.slice none 0 0) ⟨List.replicate (n + 2) 0, []⟩ (List.replicate n none) none w0 w := by
  refine ⟨?_, by simp, hn, Nat.le_refl _, by decide, fun k g g' q l hk => ?_, fun g g' q a e => by cases e⟩
  · rw [psOf_nil, stOf_nil, arrI_nil, arrR_nil]
    have m0 := Mem.nil hB hbel
    have m1 := m0.addA (epochR B p cb qb (.slice none 0 0) ⟨List.replicate (n + 2) 0, []⟩ (lawE n) (pinsV pb n) (.pointer none)) hE (fun i s h => by simp at h) (fun k hk => by
      rcases hk with (rfl | rfl | hk) | rfl
      · exact hE.b.bp
      · exact hE.b.bc
      · cases hk
      · exact hE.bf)
    have m2 := m1.addA (blkR pb 45 (pinsA (List.replicate n none))) hP (foot3 (a := pureR True) (b := pureR True) (c := pureR True) (d := pureR True) (e := pureR True) _ (by
      intro r hr k hk hk'
      simp at hr
      subst hr
      obtain rfl : k = pb := hk'
      rcases hk with (e | e | e) | e
      · exact hP.ne hE.b.hp (by decide) e
      · exact hP.ne hE.b.hc (by decide) e
      · cases e
      · exact hP.ne hE.fd (by decide) e)) (fun k hk => by rw [show k = pb from hk]; exact bp)
    have m3 := m2.addA (refR B rp vb rq stb (.slice none 0 0) ⟨List.replicate (n + 2) 0, []⟩ (lawE n) sl (List.replicate n 0) false) hR (foot3 (a := pureR True) (b := pureR True) (c := pureR True) (d := pureR True) (e := pureR True) _ (by
      intro r hr k hk hk'
      simp at hr
      have key : ∀ {t : TypeId} {cs : Array Value}, Blk w k t cs → t ≠ 73 → t ≠ 22 → t ≠ 111 → t ≠ 3 → False := by
        intro t cs hb t1 t2 t3 t4
        rcases hk' with (e | e | e) | e | e
        · exact hb.ne hR.r.hp t1 e
        · exact hb.ne hR.r.hc t2 e
        · cases e
        · exact hb.ne hR.fd t3 e
        · exact hb.ne hR.sb t4 e
      rcases hr with rfl | rfl
      · rcases hk with (rfl | rfl | e) | rfl
        · exact key hE.b.hp (by decide) (by decide) (by decide) (by decide)
        · exact key hE.b.hc (by decide) (by decide) (by decide) (by decide)
        · cases e
        · exact key hE.fd (by decide) (by decide) (by decide) (by decide)
      · obtain rfl : k = pb := hk
        exact key hP (by decide) (by decide) (by decide) (by decide))) (fun k hk => by
      rcases hk with (rfl | rfl | hk) | rfl | rfl
      · exact hR.r.bp
      · exact hR.r.bc
      · cases hk
      · exact hR.bq
      · exact hR.bs)
    have far : ∀ (A : Nat) (t : TypeId) (cs : Array Value), Blk w A t cs → t ≠ 97 → t ≠ 102 → t ≠ 109 → t ≠ 45 → t ≠ 73 → t ≠ 22 → t ≠ 111 → t ≠ 3 →
        (¬ (epochR B p cb qb (.slice none 0 0) ⟨List.replicate (n + 2) 0, []⟩ (lawE n) (pinsV pb n) (.pointer none)).foot A) ∧ A ≠ pb ∧ ¬ (refR B rp vb rq stb (.slice none 0 0) ⟨List.replicate (n + 2) 0, []⟩ (lawE n) sl (List.replicate n 0) false).foot A := by
      intro A t cs hb t1 t2 t3 t4 t5 t6 t7 t8
      refine ⟨?_, hb.ne hP t4, ?_⟩
      · rintro ((e | e | e) | e)
        · exact hb.ne hE.b.hp t1 e
        · exact hb.ne hE.b.hc t2 e
        · cases e
        · exact hb.ne hE.fd t3 e
      · rintro ((e | e | e) | e | e)
        · exact hb.ne hR.r.hp t5 e
        · exact hb.ne hR.r.hc t6 e
        · cases e
        · exact hb.ne hR.fd t7 e
        · exact hb.ne hR.sb t8 e
    have f0 := far A0 _ _ h0 (by decide) (by decide) (by decide) (by decide) (by decide) (by decide) (by decide) (by decide)
    have f1 := far A1 _ _ h1 (by decide) (by decide) (by decide) (by decide) (by decide) (by decide) (by decide) (by decide)
    have m4 := m3.addA (blkR A0 46 #[.pointer none, .pointer none, .pointer none, .pointer none, .pointer none]) h0 (foot3 (a := pureR True) (b := pureR True) (c := pureR True) (d := pureR True) (e := pureR True) _ (by
      intro r hr k hk hk'
      simp at hr
      obtain rfl : k = A0 := hk'
      rcases hr with rfl | rfl | rfl
      · exact f0.1 hk
      · exact f0.2.1 hk
      · exact f0.2.2 hk)) (fun k hk => by rw [show k = A0 from hk]; exact b0)
    have m5 := m4.addA (blkR A1 48 #[.pointer none, .pointer none, .pointer none, .pointer none, .pointer none]) h1 (foot3 (a := pureR True) (b := pureR True) (c := pureR True) (d := pureR True) (e := pureR True) _ (by
      intro r hr k hk hk'
      simp at hr
      obtain rfl : k = A1 := hk'
      rcases hr with rfl | rfl | rfl | rfl
      · exact f1.1 hk
      · exact f1.2.1 hk
      · exact f1.2.2 hk
      · exact h1.ne h0 (by decide) hk)) (fun k hk => by rw [show k = A1 from hk]; exact b1)
    have m6 := m5.addP ([pureR True, pureR True] ++ ((List.replicate n (none : Slot)).map (pinRes qb) ++ (List.replicate n (none : Slot)).map (rpinRes rq))) (by
      intro r hr
      simp at hr
      rcases hr with h | ⟨_, h⟩ | ⟨_, h⟩
      · exact h
      · exact h
      · exact h)
    exact m6
  · rw [List.getElem?_replicate] at hk
    split at hk
    · cases hk
    · cases hk

/-- Quiet calls. -/
theorem pn_next_q {qb g : Nat} {w : World} {q : Pn} (hq : Blk w g 117 (pnCells qb g q)) (k : Nat) : Calls Try.prog 21 #[.pointer (some ⟨g, 0, none⟩)] (w.drewN k) fun e w'' => e = .returned (.int .u8 q.ph) ∧ ∃ m, w'' = w.drewN m :=
  Calls.quiet_of_same ((pn_next qb g (w.drewN k) q (hq.drewN k)).mono fun e w' ⟨he, hw⟩ => ⟨he, hw.symm⟩)
theorem rpn_next_q {rq g : Nat} {w : World} {q : Pn} (hq : Blk w g 120 (rpnCells rq q)) (k : Nat) : Calls Try.prog 22 #[.pointer (some ⟨g, 0, none⟩)] (w.drewN k) fun e w'' => e = .returned (.int .u8 q.ph) ∧ ∃ m, w'' = w.drewN m :=
  Calls.quiet_of_same ((rpn_next rq g (w.drewN k) q (hq.drewN k)).mono fun e w' ⟨he, hw⟩ => ⟨he, hw.symm⟩)
theorem pn_nil_q (w : World) (k : Nat) : Calls Try.prog 21 #[.pointer none] (w.drewN k) fun e w'' => e = .returned (.int .u8 0) ∧ ∃ m, w'' = w.drewN m :=
  Calls.quiet_of_same ((pn_next_nil (w.drewN k)).mono fun e w' ⟨he, hw⟩ => ⟨he, hw.symm⟩)
theorem rpn_nil_q (w : World) (k : Nat) : Calls Try.prog 22 #[.pointer none] (w.drewN k) fun e w'' => e = .returned (.int .u8 0) ∧ ∃ m, w'' = w.drewN m :=
  Calls.quiet_of_same ((rpn_next_nil (w.drewN k)).mono fun e w' ⟨he, hw⟩ => ⟨he, hw.symm⟩)
theorem eqAccs_q (a b : Option Addr) (n ca m cb : Nat) (xs : List Acc) (w : World) (ha : InAccs w a n xs) (hb : InAccs w b m xs) (hn : n < 1000000) (k : Nat) :
    Calls Try.prog 38 #[.slice a n ca, .slice b m cb] (w.drewN k) fun e w'' => e = .returned (.bool true) ∧ ∃ m, w'' = w.drewN m :=
  Calls.quiet_of ((eqAccs_any a b n ca m cb xs xs (w.drewN k) (ha.ch ((Ch.refl (fun _ => False) w).drewN k) (fun _ _ _ => id)) (hb.ch ((Ch.refl (fun _ => False) w).drewN k) (fun _ _ _ => id)) hn).mono fun e w' ⟨he, hw⟩ => ⟨he rfl, hw⟩)
theorem st_at {gp : List Slot} {k : Nat} {o : Slot} (h : gp[k]? = some o) : lk (stOf gp) k = Slot.st o := by
  simp [lk, stOf, List.getD_eq_getElem?_getD, h]
theorem ps_at {gp : List Slot} {k : Nat} {o : Slot} (h : gp[k]? = some o) : (psOf gp)[k]? = some (Slot.ps o) := by simp [psOf, h]
theorem ckerr_ok {f : Ed} {t k : Int} (h : ckerr f t k = 0) : (0 ≤ t ∧ t < 16) ∧ 0 ≤ k ∧ k < f.n := by
  unfold ckerr at h
  split at h
  · cases h
  · split at h
    · cases h
    · omega

/-- The events so far. -/
def EsSo (p cb qb pb rp vb rq stb A0 A1 n M : Nat) (sl : Int) (s1 s2 : Value) (w0 w : World) : Prop :=
  ∃ lv mv s gp gs, s1 = scV gs ∧ s2 = rscV gs ∧ RunE w0.heap.size p cb qb pb rp vb rq stb A0 A1 n M sl lv mv s gp gs w0 w
end Go.Proofs.Ytokcodeeaneeaaa
