/-
  ReaderExamplesSaid: for every input the call returns true, and each argument reads behind it as it read before. No condition.
-/
import Derived.Test.YtjcdknhejcbpiaaGreatRows
import Derived.Test.YtjcdknhejcbpiaaGreatSx
namespace Go.Proofs.YtjcdknhejcbpiaaGreat
open Go.ChangeShapes Go.WideShapes Go.ChangeAt Go.RowKit
set_option linter.unusedVariables false

theorem readerExamples_own : ownKnob Tryz.prog.godebug = none := by kernel_rfl
theorem readerExamples_laidOut : laidOutB Tryz.prog = true := by kernel_rfl

set_option maxRecDepth 100000 in
theorem readerExamples_lifted (os : Os) (started : os.Started) (H : Type) (enc : TypeId × Value → H) :
    ReturnsInHanded {} Tryz.checked os 6 .any (Rows.readerExamplesSpec.pre6 enc Tryz.prog Tryz.f6 Rows.readerExamplesRow.domain false) (Rows.readerExamplesSpec.post enc Tryz.prog Tryz.f6 false true false false) := by
  refine returnsInHanded_of_change (C := Tryz.checked) readerExamples_own started (by kernel_rfl) Tryz.func6
    (ChangeSpec.witness6 (enc := enc) (C := Tryz.checked) false ⟨#[], #[], []⟩ 8 (by kernel_rfl) (by kernel_rfl) (by kernel_rfl) (by kernel_rfl)) ?_
  intro W base args ds gs before hval0 hW hcnd _
  have hval : ∀ (j : Nat) t v, Tryz.f6.params[j]? = some t → args[j]? = some v → Value.okWide Tryz.prog W .any base t v := hval0
  have hW' := hW
  obtain ⟨p, q, hA0, hV, rfl, hfz, hnd⟩ := hW
  have hA : DataW.TrodAll enc Tryz.prog W 0 (fun _ => true) true Tryz.f6.params.toList args.toList ds p := hA0
  rw [Tryz.params6] at hA hval
  obtain ⟨rfl, rfl, rfl⟩ := trodAll_none hA
  obtain ⟨rfl, rfl⟩ := trodVars_none hV
  clear hA0 hval0
  refine (rex_walk  W ).mono fun e W' ⟨he, bel⟩ => ?_
  subst he
  exact ⟨_, rfl, _, _, _, [], _, [], hW', trodAll_mk1 (shut_bool Tryz.underlying4 _), trodAll_mk0, rfl, bel.frame _, fun h => by cases h⟩

theorem readerExamples_tt {a b : Bool} (ha : a = true) (hb : b = true) : (a && b) = true := by rw [ha, hb]; rfl
set_option maxRecDepth 1000000 in
set_option maxHeartbeats 8000000 in
theorem readerExamples_closed : joinedFacts Tryz.pinned.checked.prog 6 Tryz.f6 Rows.readerExamplesSpec Rows.readerExamplesRow = true := by
  unfold joinedFacts
  repeat' (with_reducible refine readerExamples_tt ?_ ?_)
  all_goals (as_aux_lemma => kernel_rfl)
theorem readerExamples_named : Tryz.pinned.checked.prog.funcNamed Rows.readerExamplesRow.func = some 6 := by kernel_rfl
theorem readerExamples_inst : Tryz.f6.isInstance Tryz.pinned.checked.prog Rows.readerExamplesRow.origin Rows.readerExamplesRow.targs := of_decide_eq_true (by kernel_rfl)
theorem readerExamples_wrap : Tryz.f6.isWrapper Tryz.pinned.checked.prog Rows.readerExamplesRow.wrapper Rows.readerExamplesRow.mainSum := by
  unfold Func.isWrapper
  first | (rw [if_pos (by decide +kernel)]; kernel_rfl) | (rw [if_neg (by decide +kernel)]; exact ⟨rfl, rfl⟩)
theorem readerExamples_over : Rows.readerExamplesRow.holds Tryz.pinned (OpenSpec.ofChange Rows.readerExamplesSpec) :=
  OpenClaim.holds_of_wide 6 Tryz.f6 rfl rfl rfl rfl rfl rfl rfl ⟨rfl, rfl, rfl, rfl, rfl⟩ rfl rfl rfl rfl rfl readerExamples_named Tryz.func6 readerExamples_closed
    readerExamples_inst readerExamples_wrap
    (fun os started H enc _ => readerExamples_lifted os started H enc)

/-- The statement. -/
theorem readerExamples_holds : Rows.ReaderExamplesSaid := readerExamples_over
#print axioms readerExamples_holds
end Go.Proofs.YtjcdknhejcbpiaaGreat
