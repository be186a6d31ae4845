/-
  ReaderAloneSaid: for every input the call returns true, and each argument reads behind it as it read before. No condition.
-/
import Derived.Test.YtjcdknhejcbpiaaGreatRows
import Derived.Test.YtjcdknhejcbpiaaGreatAbP
namespace Go.Proofs.YtjcdknhejcbpiaaGreat
open Go.ChangeShapes Go.WideShapes Go.ChangeAt Go.RowKit
set_option linter.unusedVariables false

theorem readerAlone_own : ownKnob Tryz.prog.godebug = none := by kernel_rfl
theorem readerAlone_laidOut : laidOutB Tryz.prog = true := by kernel_rfl

set_option maxRecDepth 100000 in
theorem readerAlone_lifted (os : Os) (started : os.Started) (H : Type) (enc : TypeId × Value → H) :
    ReturnsInHanded {} Tryz.checked os 4 .any (Rows.readerAloneSpec.pre6 enc Tryz.prog Tryz.f4 Rows.readerAloneRow.domain false) (Rows.readerAloneSpec.post enc Tryz.prog Tryz.f4 false true false false) := by
  refine returnsInHanded_of_change (C := Tryz.checked) readerAlone_own started (by kernel_rfl) Tryz.func4
    (ChangeSpec.witness6 (enc := enc) (C := Tryz.checked) false ⟨#[], #[.string ⟨#[]⟩, .agg #[.int .u8 0, .int .i64 0, .int .i64 0, .int .i64 0, .int .u32 0, .int .u8 0, .string ⟨#[]⟩], .slice none 0 0], []⟩ 8 (by kernel_rfl) (by kernel_rfl) (by kernel_rfl) (by kernel_rfl)) ?_
  intro W base args ds gs before hval0 hW hcnd _
  have hval : ∀ (j : Nat) t v, Tryz.f4.params[j]? = some t → args[j]? = some v → Value.okWide Tryz.prog W .any base t v := hval0
  have hW' := hW
  obtain ⟨p, q, hA0, hV, rfl, hfz, hnd⟩ := hW
  have hA : DataW.TrodAll enc Tryz.prog W 0 (fun _ => true) true Tryz.f4.params.toList args.toList ds p := hA0
  rw [Tryz.params4] at hA hval
  obtain ⟨v0, vs0, d0, ds0, p0, q0, hargs, rfl, rfl, h0, r0⟩ := trodAll_cons hA
  obtain ⟨v1, vs1, d1, ds1, p1, q1, rfl, rfl, rfl, h1, r1⟩ := trodAll_cons r0
  obtain ⟨v2, vs2, d2, ds2, p2, q2, rfl, rfl, rfl, h2, r2⟩ := trodAll_cons r1
  obtain ⟨rfl, rfl, rfl⟩ := trodAll_nil r2
  obtain rfl : args = #[v0, v1, v2] := by cases args; simp_all
  obtain ⟨rfl, rfl⟩ := trodVars_none hV
  have k0 := h0
  have lt0 : ∀ x ∈ p0, x.block < W.heap.size := by obtain ⟨m, hm⟩ := k0; exact DataW.trod_lt m _ _ _ hm
  obtain ⟨a0, rfl, rfl, rfl, w0⟩ := Go.ChangeMaps.open_string Tryz.underlying9 (hval 0 9 v0 rfl rfl) h0
  have k1 := h1
  have lt1 : ∀ x ∈ p1, x.block < W.heap.size := by obtain ⟨m, hm⟩ := k1; exact DataW.trod_lt m _ _ _ hm
  obtain ⟨z1, rfl, w1⟩ := in_structS (ks := [some (some .u8), some (some .i64), some (some .i64), some (some .i64), some (some .u32), some (some .u8), none]) Tryz.underlying26 (by kernel_rfl) (by kernel_rfl) (hval 1 26 v1 rfl rfl) h1
  obtain ⟨a2, len2, cap2, rfl⟩ := okWide_slice Tryz.underlying22 (hval 2 22 v2 rfl rfl)
  have k2 := h2
  have lt2 : ∀ x ∈ p2, x.block < W.heap.size := by obtain ⟨m, hm⟩ := k2; exact DataW.trod_lt m _ _ _ hm
  obtain ⟨z2, w2⟩ := in_rowsN (ks := [.inl (some (some .u8)), .inl (some (some .u8)), .inl (some (some .i64)), .inl (some (some .i64)), .inl (some (some .i64)), .inl (some (some .u32)), .inl (some (some .u8)), .inl (none), .inl (none), .inr [some (some .u8)]]) Tryz.underlying22 (by kernel_rfl) (by kernel_rfl) (by decide) h2
  clear hA0 hval0
  refine (alone_in a0 z1 a2 len2 cap2 z2 W w0 w1 w2).mono fun e W' ⟨he, bel⟩ => ?_
  subst he
  exact ⟨_, rfl, _, _, _, [], _, [], hW', trodAll_mk1 (shut_bool Tryz.underlying4 _), (trodAll_cons_mk (Go.ChangeMaps.shut_string Tryz.underlying9 w0) (trodAll_cons_mk (Below.trod readerAlone_laidOut (by kernel_rfl) (of_decide_eq_true (by kernel_rfl)) k1 bel lt1) (trodAll_cons_mk (Below.trod readerAlone_laidOut (by kernel_rfl) (of_decide_eq_true (by kernel_rfl)) k2 bel lt2) trodAll_mk0))), rfl, bel.frame _, fun h => by cases h⟩

theorem readerAlone_tt {a b : Bool} (ha : a = true) (hb : b = true) : (a && b) = true := by rw [ha, hb]; rfl
set_option maxRecDepth 1000000 in
set_option maxHeartbeats 8000000 in
theorem readerAlone_closed : joinedFacts Tryz.pinned.checked.prog 4 Tryz.f4 Rows.readerAloneSpec Rows.readerAloneRow = true := by
  unfold joinedFacts
  repeat' (with_reducible refine readerAlone_tt ?_ ?_)
  all_goals (as_aux_lemma => kernel_rfl)
theorem readerAlone_named : Tryz.pinned.checked.prog.funcNamed Rows.readerAloneRow.func = some 4 := by kernel_rfl
theorem readerAlone_inst : Tryz.f4.isInstance Tryz.pinned.checked.prog Rows.readerAloneRow.origin Rows.readerAloneRow.targs := of_decide_eq_true (by kernel_rfl)
theorem readerAlone_wrap : Tryz.f4.isWrapper Tryz.pinned.checked.prog Rows.readerAloneRow.wrapper Rows.readerAloneRow.mainSum := by
  unfold Func.isWrapper
  first | (rw [if_pos (by decide +kernel)]; kernel_rfl) | (rw [if_neg (by decide +kernel)]; exact ⟨rfl, rfl⟩)
theorem readerAlone_over : Rows.readerAloneRow.holds Tryz.pinned (OpenSpec.ofChange Rows.readerAloneSpec) :=
  OpenClaim.holds_of_wide 4 Tryz.f4 rfl rfl rfl rfl rfl rfl rfl ⟨rfl, rfl, rfl, rfl, rfl⟩ rfl rfl rfl rfl rfl readerAlone_named Tryz.func4 readerAlone_closed
    readerAlone_inst readerAlone_wrap
    (fun os started H enc _ => readerAlone_lifted os started H enc)

/-- The statement. -/
theorem readerAlone_holds : Rows.ReaderAloneSaid := readerAlone_over
#print axioms readerAlone_holds
end Go.Proofs.YtjcdknhejcbpiaaGreat
