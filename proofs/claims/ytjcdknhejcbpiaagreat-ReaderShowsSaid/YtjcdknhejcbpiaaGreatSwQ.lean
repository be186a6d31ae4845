/-
  ReaderShowsSaid: for every input the call returns true, and each argument reads behind it as it read before. No condition.
-/
import Derived.Test.YtjcdknhejcbpiaaGreatRows

import Derived.Test.YtjcdknhejcbpiaaGreatSbP
namespace Go.Proofs.YtjcdknhejcbpiaaGreat
open Go.ChangeShapes Go.WideShapes Go.ChangeAt Go.RowKit
set_option linter.unusedVariables false

theorem readerShows_own : ownKnob Tryz.prog.godebug = none := by kernel_rfl
theorem readerShows_laidOut : laidOutB Tryz.prog = true := by kernel_rfl

set_option maxRecDepth 100000 in
theorem readerShows_lifted (os : Os) (started : os.Started) (H : Type) (enc : TypeId × Value → H) :
    ReturnsInHanded {} Tryz.checked os 3 .any (Rows.readerShowsSpec.pre6 enc Tryz.prog Tryz.f3 Rows.readerShowsRow.domain false) (Rows.readerShowsSpec.post enc Tryz.prog Tryz.f3 false true false false) := by
  refine returnsInHanded_of_change (C := Tryz.checked) readerShows_own started (by kernel_rfl) Tryz.func3
    (ChangeSpec.witness6 (enc := enc) (C := Tryz.checked) false ⟨#[], #[.string ⟨#[]⟩, .int .i64 0, .slice none 0 0], []⟩ 8 (by kernel_rfl) (by kernel_rfl) (by kernel_rfl) (by kernel_rfl)) ?_
  intro W base args ds gs before hval0 hW hcnd _
  have hval : ∀ (j : Nat) t v, Tryz.f3.params[j]? = some t → args[j]? = some v → Value.okWide Tryz.prog W .any base t v := hval0
  have hW' := hW
  obtain ⟨p, q, hA0, hV, rfl, hfz, hnd⟩ := hW
  have hA : DataW.TrodAll enc Tryz.prog W 0 (fun _ => true) true Tryz.f3.params.toList args.toList ds p := hA0
  rw [Tryz.params3] at hA hval
  obtain ⟨v0, vs0, d0, ds0, p0, q0, hargs, rfl, rfl, h0, r0⟩ := trodAll_cons hA
  obtain ⟨v1, vs1, d1, ds1, p1, q1, rfl, rfl, rfl, h1, r1⟩ := trodAll_cons r0
  obtain ⟨v2, vs2, d2, ds2, p2, q2, rfl, rfl, rfl, h2, r2⟩ := trodAll_cons r1
  obtain ⟨rfl, rfl, rfl⟩ := trodAll_nil r2
  obtain rfl : args = #[v0, v1, v2] := by cases args; simp_all
  obtain ⟨rfl, rfl⟩ := trodVars_none hV
  have k0 := h0
  have lt0 : ∀ x ∈ p0, x.block < W.heap.size := by obtain ⟨m, hm⟩ := k0; exact DataW.trod_lt m _ _ _ hm
  obtain ⟨a0, rfl, rfl, rfl, w0⟩ := Go.ChangeMaps.open_string Tryz.underlying9 (hval 0 9 v0 rfl rfl) h0
  have k1 := h1
  have lt1 : ∀ x ∈ p1, x.block < W.heap.size := by obtain ⟨m, hm⟩ := k1; exact DataW.trod_lt m _ _ _ hm
  obtain ⟨a1, rfl, rfl, rfl, w1⟩ := open_int Tryz.underlying3 (hval 1 3 v1 rfl rfl) h1
  obtain ⟨a2, len2, cap2, rfl⟩ := okWide_slice Tryz.underlying22 (hval 2 22 v2 rfl rfl)
  have k2 := h2
  have lt2 : ∀ x ∈ p2, x.block < W.heap.size := by obtain ⟨m, hm⟩ := k2; exact DataW.trod_lt m _ _ _ hm
  obtain ⟨z2, w2⟩ := in_rowsN (ks := [.inl (some (some .u8)), .inl (some (some .u8)), .inl (some (some .i64)), .inl (some (some .i64)), .inl (some (some .i64)), .inl (some (some .u32)), .inl (some (some .u8)), .inl (none), .inl (none), .inr [some (some .u8)]]) Tryz.underlying22 (by kernel_rfl) (by kernel_rfl) (by decide) h2
  clear hA0 hval0
  refine (shows_in a0 a1 a2 len2 cap2 z2 W w0 w1 w2).mono fun e W' ⟨he, bel⟩ => ?_
  subst he
  exact ⟨_, rfl, _, _, _, [], _, [], hW', trodAll_mk1 (shut_bool Tryz.underlying4 _), (trodAll_cons_mk (Go.ChangeMaps.shut_string Tryz.underlying9 w0) (trodAll_cons_mk (shut_int Tryz.underlying3 w1) (trodAll_cons_mk (Below.trod readerShows_laidOut (by kernel_rfl) (of_decide_eq_true (by kernel_rfl)) k2 bel lt2) trodAll_mk0))), rfl, bel.frame _, fun h => by cases h⟩

theorem readerShows_tt {a b : Bool} (ha : a = true) (hb : b = true) : (a && b) = true := by rw [ha, hb]; rfl
set_option maxRecDepth 1000000 in
set_option maxHeartbeats 8000000 in
theorem readerShows_closed : joinedFacts Tryz.pinned.checked.prog 3 Tryz.f3 Rows.readerShowsSpec Rows.readerShowsRow = true := by
  unfold joinedFacts
  repeat' (with_reducible refine readerShows_tt ?_ ?_)
  all_goals (as_aux_lemma => kernel_rfl)
theorem readerShows_named : Tryz.pinned.checked.prog.funcNamed Rows.readerShowsRow.func = some 3 := by kernel_rfl
theorem readerShows_inst : Tryz.f3.isInstance Tryz.pinned.checked.prog Rows.readerShowsRow.origin Rows.readerShowsRow.targs := of_decide_eq_true (by kernel_rfl)
theorem readerShows_wrap : Tryz.f3.isWrapper Tryz.pinned.checked.prog Rows.readerShowsRow.wrapper Rows.readerShowsRow.mainSum := by
  unfold Func.isWrapper
  first | (rw [if_pos (by decide +kernel)]; kernel_rfl) | (rw [if_neg (by decide +kernel)]; exact ⟨rfl, rfl⟩)
theorem readerShows_over : Rows.readerShowsRow.holds Tryz.pinned (OpenSpec.ofChange Rows.readerShowsSpec) :=
  OpenClaim.holds_of_wide 3 Tryz.f3 rfl rfl rfl rfl rfl rfl rfl ⟨rfl, rfl, rfl, rfl, rfl⟩ rfl rfl rfl rfl rfl readerShows_named Tryz.func3 readerShows_closed
    readerShows_inst readerShows_wrap
    (fun os started H enc _ => readerShows_lifted os started H enc)

/-- The statement. -/
theorem readerShows_holds : Rows.ReaderShowsSaid := readerShows_over
#print axioms readerShows_holds
end Go.Proofs.YtjcdknhejcbpiaaGreat
