/- EpochExamples: the limbo, lists, advances. -/
import Derived.Test.YtokcodeeaneeaaaEeB
namespace Go.Proofs.Ytokcodeeaneeaaa
open Go.RowKit
set_option linter.unusedVariables false
set_option linter.unusedSimpArgs false
set_option linter.unusedSectionVars false

/-- The list of a limbo that an epoch names, changed. -/
def putO (now : Int) (hs : List Int) (j : Int) (o : List Int) : List Int := if now % 3 = j then o ++ hs else o
section
variable {B p cb qb pb lb k : Nat} {s : BS} {gp : List Gp} {gs : Gs} {o0 o1 o2 : List Int} {w0 w w' : World}
theorem ExG.handles (h : ExG B p cb qb pb lb s gp gs o0 o1 o2 w0 w) : Calls Try.prog 42 #[.pointer (some ⟨lb, 0, none⟩)] w fun e w' => ∃ v, e = .returned v ∧ HsAt w' v (o0 ++ o1 ++ o2) ∧ ExG B p cb qb pb lb s gp gs o0 o1 o2 w0 w' := by
  have h1 := h
  obtain ⟨lv, v0, v1, v2, h, _, _, ho⟩ := h
  refine (handles_h lb v0 v1 v2 o0 o1 o2 w (h.each 2 _ rfl) (hs_of_own (show w.ownsRow B 92 1 v0 o0.length (hvs o0) from h.each 3 _ rfl)) (hs_of_own (show w.ownsRow B 92 1 v1 o1.length (hvs o1) from h.each 4 _ rfl)) (hs_of_own (show w.ownsRow B 92 1 v2 o2.length (hvs o2) from h.each 5 _ rfl)) (by omega)).mono ?_
  rintro e w' ⟨v, rfl, hm, c⟩
  exact ⟨v, rfl, hs_of_own hm, h1.keep c⟩
theorem ExG.retire_zero (h : ExG B p cb qb pb lb s gp gs o0 o1 o2 w0 w) (now : Int) {b off n c : Nat} {hs : List Int} (hn : n = hs.length) (hnc : n ≤ c) (hh : ∀ i u, (hvs hs)[i]? = some u → w.cell? ⟨b, off + i, none⟩ = some u) (hs0 : 0 < n) (hn2 : n ≤ 10) (hz : 0 ∈ hs) :
    Calls Try.prog 45 #[.pointer (some ⟨lb, 0, none⟩), .int .u64 now, .slice (some ⟨b, off, none⟩) n c] w fun e w' => e = .returned (.int .i64 2) ∧ ExG B p cb qb pb lb s gp gs o0 o1 o2 w0 w' := by
  have h1 := h
  obtain ⟨lv, v0, v1, v2, h, _, _, ho⟩ := h
  refine (retire_arg lb o0 o1 o2 w now b off n c hs hn hnc hh hs0 (by omega) hz).mono ?_
  rintro e w' ⟨rfl, c⟩
  exact ⟨rfl, h1.keep c⟩
theorem ExG.retire (h : ExG B p cb qb pb lb s gp gs o0 o1 o2 w0 w) (now : Int) (hnow : 0 ≤ now ∧ now < 1000) {b off n c : Nat} {hs : List Int} (hn : n = hs.length) (hnc : n ≤ c) (hh : ∀ i u, (hvs hs)[i]? = some u → w.cell? ⟨b, off + i, none⟩ = some u) (hs0 : 0 < n) (hz : ¬ 0 ∈ hs) (hsm : (o0 ++ o1 ++ o2).length + n ≤ 100) :
    Calls Try.prog 45 #[.pointer (some ⟨lb, 0, none⟩), .int .u64 now, .slice (some ⟨b, off, none⟩) n c] w fun e w' =>
      (¬ (o0 ++ o1 ++ o2 ++ hs).Nodup ∧ e = .returned (.int .i64 9) ∧ ExG B p cb qb pb lb s gp gs o0 o1 o2 w0 w') ∨ ((o0 ++ o1 ++ o2 ++ hs).Nodup ∧ e = .returned (.int .i64 0) ∧ ExG B p cb qb pb lb s gp gs (putO now hs 0 o0) (putO now hs 1 o1) (putO now hs 2 o2) w0 w') := by
  have h1 := h
  obtain ⟨lv, v0, v1, v2, h, hgl, hl, ho⟩ := h
  refine (retire_run B lb v0 v1 v2 o0 o1 o2 w (h.each 2 _ rfl) (h.each 3 _ rfl) (h.each 4 _ rfl) (h.each 5 _ rfl) now ⟨hnow.1, by omega⟩ b off n c hs hn hnc hh hs0 (by omega) h.bz hz).mono ?_
  rintro e w' (⟨hd, rfl, c⟩ | ⟨hd, rfl, hr⟩)
  · exact .inl ⟨hd, rfl, h1.keep c⟩
  refine .inr ⟨hd, rfl, ?_⟩
  obtain ⟨j, v, v', o, hj, hje, hv, ho', hb, hm, c, hf⟩ := hr
  have up : ∀ (i : Nat), i < 6 → i ≠ 2 → (exL B p cb qb pb lb lv v0 v1 v2 (lbCells v0 v1 v2) s (gbOf gp) (gsV gs) o0 o1 o2 (gsR qb gs) (gp.map (gpR qb)))[i]? = some (rowR B 92 1 o.length v (hvs o)) →
      Mem B w0 (((exL B p cb qb pb lb lv v0 v1 v2 (lbCells v0 v1 v2) s (gbOf gp) (gsV gs) o0 o1 o2 (gsR qb gs) (gp.map (gpR qb))).set i (rowR B 92 1 (o ++ hs).length v' (hvs (o ++ hs)))).set 2 (blkR lb 133 ((lbCells v0 v1 v2).setIfInBounds j v'))) w' := fun i hi h4 hget =>
    h.upd2 (i := i) (j := 2) (rowR B 92 1 (o ++ hs).length v' (hvs (o ++ hs))) (blkR lb 133 ((lbCells v0 v1 v2).setIfInBounds j v')) hget rfl h4 c (fun k _ e => by rcases e with e | e; exact .inr e; exact .inl e) hm hb (fun k hk => by
      rcases hf with e | e
      · exact .inl (by show v.ownBlock = some k; rw [← e]; exact hk)
      · exact .inr (e k hk)) (fun k hk => hk)
  have len : (o0 ++ o1 ++ o2).length + hs.length ≤ 1000 := by omega
  simp only [List.length_append] at len
  unfold putO
  match j, hj, up with
  | 0, _, up =>
    cases hv; cases ho'
    rw [if_pos (show now % 3 = 0 by rw [← hje]; rfl), if_neg (show ¬ now % 3 = 1 by rw [← hje]; decide), if_neg (show ¬ now % 3 = 2 by rw [← hje]; decide)]
    exact ⟨lv, v', v1, v2, up 3 (by decide) (by decide) rfl, hgl, hl, by simp only [List.length_append]; omega⟩
  | 1, _, up =>
    cases hv; cases ho'
    rw [if_neg (show ¬ now % 3 = 0 by rw [← hje]; decide), if_pos (show now % 3 = 1 by rw [← hje]; rfl), if_neg (show ¬ now % 3 = 2 by rw [← hje]; decide)]
    exact ⟨lv, v0, v', v2, up 4 (by decide) (by decide) rfl, hgl, hl, by simp only [List.length_append]; omega⟩
  | 2, _, up =>
    cases hv; cases ho'
    rw [if_neg (show ¬ now % 3 = 0 by rw [← hje]; decide), if_neg (show ¬ now % 3 = 1 by rw [← hje]; decide), if_pos (show now % 3 = 2 by rw [← hje]; rfl)]
    exact ⟨lv, v0, v1, v', up 5 (by decide) (by decide) rfl, hgl, hl, by simp only [List.length_append]; omega⟩
theorem ExG.unpin_busy (h : ExG B p cb qb pb lb s gp gs o0 o1 o2 w0 w) (t : Nat) (ht : t < 16) (hk : k < 2) {g : Nat} {q : Pn} (hp : gp[k]? = some (some (g, q))) (hph : q.ph = 9 ∨ q.ph = 10) : Calls Try.prog 25 #[.pointer (some ⟨qb, 0, none⟩), .int .i64 t, .int .i64 k] w fun e w' => e = .returned (.int .i64 8) ∧ w = w' := by
  have hgb := h.gbl
  have hB := h.pinB hp
  obtain ⟨lv, v0, v1, v2, h, _⟩ := h
  exact unpin_state B p cb qb pb lv s (edf 2) (gsV gs) (gbOf gp) w (h.each 0 _ rfl) (h.each 1 _ rfl) hgb (t : Int) k (ck_ok ht hk) g (gb_at hp) q hB hph
theorem ExG.unpin_no (h : ExG B p cb qb pb lb s gp gs o0 o1 o2 w0 w) (t : Nat) (ht : t < 16) (hk : k < 2) (hp : gp[k]? = some none) : Calls Try.prog 25 #[.pointer (some ⟨qb, 0, none⟩), .int .i64 t, .int .i64 k] w fun e w' => e = .returned (.int .i64 7) ∧ w = w' := by
  have hgb := h.gbl
  obtain ⟨lv, v0, v1, v2, h, _⟩ := h
  exact unpin_none B p cb qb pb lv s (edf 2) (gsV gs) (gbOf gp) w (h.each 0 _ rfl) (h.each 1 _ rfl) hgb (t : Int) k (ck_ok ht hk) (gb_at hp)
/-- The list of a limbo that is due, taken out. -/
def cutO (now : Int) (j : Int) (o : List Int) : List Int := if (now % 3 + 1) % 3 = j then [] else o
def dueO (now : Int) (o0 o1 o2 : List Int) : List Int := if (now % 3 + 1) % 3 = 0 then o0 else if (now % 3 + 1) % 3 = 1 then o1 else o2
theorem ExG.due (h : ExG B p cb qb pb lb s gp gs o0 o1 o2 w0 w) (now : Int) (hnow : 0 ≤ now ∧ now < 1000) : Calls Try.prog 46 #[.pointer (some ⟨lb, 0, none⟩), .int .u64 now] w fun e w' =>
    ∃ v, e = .returned v ∧ HsAt w' v (dueO now o0 o1 o2) ∧ ExG B p cb qb pb lb s gp gs (cutO now 0 o0) (cutO now 1 o1) (cutO now 2 o2) w0 w' := by
  obtain ⟨lv, v0, v1, v2, h, hgl, hl, ho⟩ := h
  refine (due_h lb v0 v1 v2 w (h.each 2 _ rfl) now ⟨hnow.1, by omega⟩).mono ?_
  rintro e w' ⟨j, hj, hje, v, hv, rfl, hb, c⟩
  simp only [List.length_append] at ho
  have m2 := h.upd (i := 2) (blkR lb 133 ((lbCells v0 v1 v2).setIfInBounds j (.slice none 0 0))) rfl c (fun _ _ e => e) hb (fun _ e => .inl e)
  have up : ∀ (i : Nat) (r : Res), ((exL B p cb qb pb lb lv v0 v1 v2 (lbCells v0 v1 v2) s (gbOf gp) (gsV gs) o0 o1 o2 (gsR qb gs) (gp.map (gpR qb))).set 2 (blkR lb 133 ((lbCells v0 v1 v2).setIfInBounds j (.slice none 0 0))))[i]? = some r → Mem B w0 (((exL B p cb qb pb lb lv v0 v1 v2 (lbCells v0 v1 v2) s (gbOf gp) (gsV gs) o0 o1 o2 (gsR qb gs) (gp.map (gpR qb))).set 2 (blkR lb 133 ((lbCells v0 v1 v2).setIfInBounds j (.slice none 0 0)))).set i (rowR B 92 1 0 (.slice none 0 0) [])) w' := fun i r hi =>
    m2.upd (rowR B 92 1 0 (.slice none 0 0) []) hi (Ch.refl (fun _ => False) _) (fun _ _ e => e.elim) (World.ownsRow_nil _ _ _ _) (fun k hk => by cases hk)
  have at' : ∀ (i : Nat) (v : Value) (o : List Int), ((exL B p cb qb pb lb lv v0 v1 v2 (lbCells v0 v1 v2) s (gbOf gp) (gsV gs) o0 o1 o2 (gsR qb gs) (gp.map (gpR qb))).set 2 (blkR lb 133 ((lbCells v0 v1 v2).setIfInBounds j (.slice none 0 0))))[i]? = some (rowR B 92 1 o.length v (hvs o)) → HsAt w' v o := fun i v o hi => hs_of_own (show w'.ownsRow B 92 1 v o.length (hvs o) from m2.each i _ hi)
  unfold cutO dueO
  match j, hj, hje, up, at', hv with
  | 0, _, hje, up, at', hv =>
    cases hv
    have e0 : (now % 3 + 1) % 3 = 0 := by rw [← hje]; rfl
    simp only [e0, if_true, show ¬ ((0 : Int) = 1) by decide, show ¬ ((0 : Int) = 2) by decide, if_false]
    exact ⟨v0, rfl, at' 3 _ _ rfl, lv, .slice none 0 0, v1, v2, up 3 _ rfl, hgl, hl, by simp only [List.length_append, List.length_nil]; omega⟩
  | 1, _, hje, up, at', hv =>
    cases hv
    have e0 : (now % 3 + 1) % 3 = 1 := by rw [← hje]; rfl
    simp only [e0, if_true, show ¬ ((1 : Int) = 0) by decide, show ¬ ((1 : Int) = 2) by decide, if_false]
    exact ⟨v1, rfl, at' 4 _ _ rfl, lv, v0, .slice none 0 0, v2, up 4 _ rfl, hgl, hl, by simp only [List.length_append, List.length_nil]; omega⟩
  | 2, _, hje, up, at', hv =>
    cases hv
    have e0 : (now % 3 + 1) % 3 = 2 := by rw [← hje]; rfl
    simp only [e0, if_true, show ¬ ((2 : Int) = 0) by decide, show ¬ ((2 : Int) = 1) by decide, if_false]
    exact ⟨v2, rfl, at' 5 _ _ rfl, lv, v0, v1, .slice none 0 0, up 5 _ rfl, hgl, hl, by simp only [List.length_append, List.length_nil]; omega⟩
end
set_option maxHeartbeats 1000000 in
theorem eqHs_any (v u : Value) (xs : List Int) (w : World) (hv : HsAt w v xs) (hu : HsAt w u xs) (hn : xs.length < 1000) :
    Calls Try.prog 47 #[v, u] w fun e w' => e = .returned (.bool true) ∧ ∃ k, w' = w.drewN k := by
  obtain ⟨A, ca, rfl, hca, ha⟩ := hv
  obtain ⟨C, cb, rfl, hcb, hb⟩ := hu
  obtain ⟨n, hnn⟩ : ∃ n, n = xs.length := ⟨_, rfl⟩
  have HX := hid hnn
  rw [← hnn] at ha hb hn hca hcb ⊢
  clear hnn
  have hne : ((n : Int) != (n : Int)) = false := by simp
  go_enter Try.func47, Try.ntmps47
  go_wp2_with fail
  go_loopw [5] (fun i wr => ∃ k : Nat, k ≤ n ∧ i = .int .i64 k ∧ ∃ d, wr = w.drewN d) (fun i _ => n - (intOf i).toNat)
  case atStart => exact ⟨0, Nat.zero_le _, rfl, 0, rfl⟩
  case round =>
    obtain ⟨k, hk, rfl, d, rfl⟩ := hrel
    by_cases hlt : k < n
    · obtain ⟨b1, o1, rfl, h1⟩ := ha (by omega)
      obtain ⟨b2, o2, rfl, h2⟩ := hb (by omega)
      have c1 := h1 k _ (hvs_at (by rw [← HX.out]; exact hlt))
      have c2 := h2 k _ (hvs_at (by rw [← HX.out]; exact hlt))
      clear h1 h2
      have he' : (lk xs k != lk xs k) = false := by simp
      go_wp2_with fail
      go_quiet (fail)
      go_wp2_with fail
      go_roundw
      case rel => exact ⟨k + 1, by omega, by go_num, _, rfl⟩
      case measure => simp [intOf]; omega
    · obtain rfl : k = n := by omega
      go_wp2_with fail
      go_ret
      exact ⟨rfl, _, rfl⟩
end Go.Proofs.Ytokcodeeaneeaaa
