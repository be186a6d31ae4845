/- QueueSteps: the beginning, quiet calls. -/
import Derived.Test.YtpkjjlahmjijnaaQsM
import Derived.Test.YtpkjjlahmjijnaaFrame
namespace Go.Proofs.Ytpkjjlahmjijnaa
open Go.RowKit
set_option linter.unusedVariables false
set_option linter.unusedSimpArgs false
set_option linter.unusedSectionVars false

theorem Mem.addA {B : Nat} {w0 w : World} {L : List Res} (h : Mem B w0 L w) (r : Res) (h' : r.holds w) (ha : ∀ (i : Nat) (s : Res), L[i]? = some s → ∀ k, s.foot k → ¬ r.foot k) (hl : ∀ k, r.foot k → B ≤ k) : Mem B w0 (L ++ [r]) w := by
  refine ⟨fun j s hj => ?_, fun j j' s s' hj hj' hne k hs hs' => ?_, fun j s hj k hs => ?_, h.bel, h.bz⟩
  · rcases mem_app hj with ⟨_, rfl⟩ | hj
    · exact h'
    · exact h.each j s hj
  · rcases mem_app hj with ⟨rfl, rfl⟩ | hj1
    · rcases mem_app hj' with ⟨rfl, _⟩ | hj2
      · exact hne rfl
      · exact ha j' s' hj2 k hs' hs
    · rcases mem_app hj' with ⟨rfl, rfl⟩ | hj2
      · exact ha j s hj1 k hs hs'
      · exact h.apart j j' s s' hj1 hj2 hne k hs hs'
  · rcases mem_app hj with ⟨_, rfl⟩ | hj
    · exact hl k hs
    · exact h.low j s hj k hs
theorem lk_rep (m c : Nat) : lk (List.replicate m (0 : Int)) c = 0 := by
  simp only [lk, List.getD_eq_getElem?_getD, List.getElem?_replicate]
  split <;> rfl
theorem qerr_freshS {n : Nat} (h1 : 1 ≤ n) (h2 : n ≤ 64) : qerr (List.replicate (n + 4) 0) 1 ((n : Int) + 2) 2 n = 0 := by
  unfold qerr
  rw [List.length_replicate, if_neg (by omega), if_neg (fun e => e ⟨⟨by omega, by omega⟩, ⟨by omega, by omega⟩, by omega, by omega⟩), if_neg (by omega), if_neg]
  rintro ⟨j, _, hj, _⟩
  exact hj (lk_rep _ j)
/-- The beginning. -/
theorem qs_init {B p cb qb rp vb rq n : Nat} {w0 w : World} (hn1 : 1 ≤ n) (hB : B ≤ w.heap.size) (hbel : Below B w0 w)
    (hQ : QueueM B w p cb qb (.slice none 0 0) ⟨List.replicate (n + 4) 0, []⟩ (lawS n) (.pointer none)) (hR : RQuM B w rp vb rq (.slice none 0 0) ⟨List.replicate (n + 4) 0, []⟩ (lawS n) false) : RunS B p cb qb rp vb rq n 0 (.slice none 0 0) (.slice none 0 0) (.slice none 0 0) (.slice none 0 0) ⟨List.replicate (n + 4) 0, []⟩ [] none w0 w := by
  refine ⟨?_, ⟨?_, ?_, Nat.le_refl _, by simp⟩, Nat.le_refl _, by decide, hn1, fun k g g' q hk => by simp at hk, fun g g' q e => by cases e⟩
  · have m0 := Mem.nil hB hbel
    have m1 := m0.addA (queueR B p cb qb (.slice none 0 0) ⟨List.replicate (n + 4) 0, []⟩ (lawS n) (.pointer none)) hQ (fun i s h => by simp at h) (fun k hk => by
      rcases hk with (rfl | rfl | hk) | rfl
      · exact hQ.b.bp
      · exact hQ.b.bc
      · cases hk
      · exact hQ.bf)
    have m2 := m1.addA (refqR B rp vb rq (.slice none 0 0) ⟨List.replicate (n + 4) 0, []⟩ (lawS n) false) hR (fun i r hr k hk hk' => by
      have hr' := List.mem_of_getElem? hr
      simp at hr'
      subst hr'
      have key : ∀ {t : TypeId} {cs : Array Value}, Blk w k t cs → t ≠ 81 → t ≠ 22 → t ≠ 98 → False := by
        intro t cs hb t1 t2 t3
        rcases hk' with (e | e | e) | e
        · exact hb.ne hR.r.hp t1 e
        · exact hb.ne hR.r.hc t2 e
        · cases e
        · exact hb.ne hR.fd t3 e
      rcases hk with (rfl | rfl | e) | rfl
      · exact key hQ.b.hp (by decide) (by decide) (by decide)
      · exact key hQ.b.hc (by decide) (by decide) (by decide)
      · cases e
      · exact key hQ.fd (by decide) (by decide) (by decide)) (fun k hk => by
      rcases hk with (rfl | rfl | hk) | rfl
      · exact hR.r.bp
      · exact hR.r.bc
      · cases hk
      · exact hR.bq)
    have m3 := m2.addA (pureR True) trivial (fun _ _ _ _ _ hk => hk) (fun _ hk => hk.elim)
    have m4 := m3.addA (pureR True) trivial (fun _ _ _ _ _ hk => hk) (fun _ hk => hk.elim)
    have m5 := m4.addA (rowR B 52 1 0 (.slice none 0 0) []) (World.ownsRow_nil _ _ _ _) (fun _ _ _ _ _ hk => by cases hk) (fun _ hk => by cases hk)
    have m6 := m5.addA (rowR B 72 1 0 (.slice none 0 0) []) (World.ownsRow_nil _ _ _ _) (fun _ _ _ _ _ hk => by cases hk) (fun _ hk => by cases hk)
    exact m6
  · show 0 ≤ lk (List.replicate (n + 4) (0 : Int)) 1 ∧ lk (List.replicate (n + 4) (0 : Int)) 1 ≤ _
    rw [lk_rep]; exact ⟨Int.le_refl _, Int.le_refl _⟩
  · show 0 ≤ lk (List.replicate (n + 4) (0 : Int)) (n + 2) ∧ lk (List.replicate (n + 4) (0 : Int)) (n + 2) ≤ _
    rw [lk_rep]; exact ⟨Int.le_refl _, Int.le_refl _⟩
theorem qlist_lenS {M n : Nat} {s : BS} (h : SI M n s) (hM : M ≤ 500000) : (qlist s (lawS n)).length < 1000000 := by
  unfold qlist
  rw [List.length_map, List.length_range]
  have := h.h
  have := h.t
  omega
theorem bnd6 {x : Int} {M : Nat} (h : 0 ≤ x ∧ x ≤ M) (hM : M ≤ 500000) : 0 ≤ x ∧ x ≤ 1000000 := by omega
theorem plRes_eq {q : Pl} (h : q.fin = (q.ph == 0)) : plRes q = (if q.ph = 0 then q.got else 0, if q.ph = 0 then q.er else 8) := by
  unfold plRes
  rw [h]
  by_cases e : q.ph = 0
  · rw [if_pos (by rw [e]; rfl), if_pos e, if_pos e]
  · rw [if_neg (by simpa using e), if_neg e, if_neg e]
/-- Quiet calls. -/
theorem un_q {qb g : Nat} {w : World} {q : Pu} (hq : Blk w g 105 (puCells qb q)) (k : Nat) : Calls Try.prog 24 #[.pointer (some ⟨g, 0, none⟩)] (w.drewN k) fun e w'' => e = .returned (.int .u8 q.ph) ∧ ∃ m, w'' = w.drewN m :=
  Calls.quiet_of_same ((unext_any qb g (w.drewN k) q (hq.drewN k)).mono fun e w' ⟨he, hw⟩ => ⟨he, hw.symm⟩)
theorem run_q {rq g : Nat} {w : World} {q : Pu} (hq : Blk w g 113 (rpuCells rq q)) (k : Nat) : Calls Try.prog 35 #[.pointer (some ⟨g, 0, none⟩)] (w.drewN k) fun e w'' => e = .returned (.int .u8 q.ph) ∧ ∃ m, w'' = w.drewN m :=
  Calls.quiet_of_same ((runext_any rq g (w.drewN k) q (hq.drewN k)).mono fun e w' ⟨he, hw⟩ => ⟨he, hw.symm⟩)
theorem ur_q {qb g : Nat} {w : World} {q : Pu} (hq : Blk w g 105 (puCells qb q)) (k : Nat) : Calls Try.prog 25 #[.pointer (some ⟨g, 0, none⟩)] (w.drewN k) fun e w'' => e = .returned (.int .i64 (if q.ph = 0 then q.er else 8)) ∧ ∃ m, w'' = w.drewN m :=
  Calls.quiet_of_same ((ures_any qb g (w.drewN k) q (hq.drewN k)).mono fun e w' ⟨he, hw⟩ => ⟨he, hw.symm⟩)
theorem rur_q {rq g : Nat} {w : World} {q : Pu} (hq : Blk w g 113 (rpuCells rq q)) (k : Nat) : Calls Try.prog 37 #[.pointer (some ⟨g, 0, none⟩)] (w.drewN k) fun e w'' => e = .returned (.int .i64 (if q.ph = 0 then q.er else 8)) ∧ ∃ m, w'' = w.drewN m :=
  Calls.quiet_of_same ((rures_any rq g (w.drewN k) q (hq.drewN k)).mono fun e w' ⟨he, hw⟩ => ⟨he, hw.symm⟩)
theorem eqAccs_q (a b : Option Addr) (n ca m cb : Nat) (xs : List Acc) (w : World) (ha : InAccs w a n xs) (hb : InAccs w b m xs) (hn : n < 1000000) (k : Nat) :
    Calls Try.prog 43 #[.slice a n ca, .slice b m cb] (w.drewN k) fun e w'' => e = .returned (.bool true) ∧ ∃ m, w'' = w.drewN m :=
  Calls.quiet_of ((eqAccs_any a b n ca m cb xs xs (w.drewN k) (ha.ch ((Ch.refl (fun _ => False) w).drewN k) (fun _ _ _ => id)) (hb.ch ((Ch.refl (fun _ => False) w).drewN k) (fun _ _ _ => id)) hn).mono fun e w' ⟨he, hw⟩ => ⟨he rfl, hw⟩)
/-- The events so far. -/
def QsSo (p cb qb rp vb rq n M : Nat) (s1 s2 s3 s4 : Value) (w0 w : World) : Prop :=
  ∃ lv mv s gp gq, s3 = lpV gq ∧ s4 = rlpV gq ∧ RunS w0.heap.size p cb qb rp vb rq n M lv mv s1 s2 s gp gq w0 w
end Go.Proofs.Ytpkjjlahmjijnaa
