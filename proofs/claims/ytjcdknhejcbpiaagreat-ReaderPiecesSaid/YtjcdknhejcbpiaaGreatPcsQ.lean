/-
  ReaderPiecesSaid: for every input the call returns true, and each argument reads behind it as it read before. No condition.
-/
import Derived.Test.YtjcdknhejcbpiaaGreatRows
import Derived.Test.YtjcdknhejcbpiaaGreatPbP
import Derived.ChangeMaps5
namespace Go.Proofs.YtjcdknhejcbpiaaGreat
open Go.ChangeShapes Go.WideShapes Go.ChangeAt Go.RowKit
set_option linter.unusedVariables false

theorem readerPieces_own : ownKnob Tryz.prog.godebug = none := by kernel_rfl
theorem readerPieces_laidOut : laidOutB Tryz.prog = true := by kernel_rfl

set_option maxRecDepth 100000 in
theorem readerPieces_lifted (os : Os) (started : os.Started) (H : Type) (enc : TypeId × Value → H) :
    ReturnsInHanded {} Tryz.checked os 5 .any (Rows.readerPiecesSpec.pre6 enc Tryz.prog Tryz.f5 Rows.readerPiecesRow.domain false) (Rows.readerPiecesSpec.post enc Tryz.prog Tryz.f5 false true false false) := by
  refine returnsInHanded_of_change (C := Tryz.checked) readerPieces_own started (by kernel_rfl) Tryz.func5
    (ChangeSpec.witness6 (enc := enc) (C := Tryz.checked) false ⟨#[], #[.string ⟨#[]⟩, .slice none 0 0], []⟩ 8 (by kernel_rfl) (by kernel_rfl) (by kernel_rfl) (by kernel_rfl)) ?_
  intro W base args ds gs before hval0 hW hcnd _
  have hval : ∀ (j : Nat) t v, Tryz.f5.params[j]? = some t → args[j]? = some v → Value.okWide Tryz.prog W .any base t v := hval0
  have hW' := hW
  obtain ⟨p, q, hA0, hV, rfl, hfz, hnd⟩ := hW
  have hA : DataW.TrodAll enc Tryz.prog W 0 (fun _ => true) true Tryz.f5.params.toList args.toList ds p := hA0
  rw [Tryz.params5] at hA hval
  obtain ⟨v0, vs0, d0, ds0, p0, q0, hargs, rfl, rfl, h0, r0⟩ := trodAll_cons hA
  obtain ⟨v1, vs1, d1, ds1, p1, q1, rfl, rfl, rfl, h1, r1⟩ := trodAll_cons r0
  obtain ⟨rfl, rfl, rfl⟩ := trodAll_nil r1
  obtain rfl : args = #[v0, v1] := by cases args; simp_all
  obtain ⟨rfl, rfl⟩ := trodVars_none hV
  have k0 := h0
  have lt0 : ∀ x ∈ p0, x.block < W.heap.size := by obtain ⟨m, hm⟩ := k0; exact DataW.trod_lt m _ _ _ hm
  obtain ⟨a0, rfl, rfl, rfl, w0⟩ := Go.ChangeMaps.open_string Tryz.underlying9 (hval 0 9 v0 rfl rfl) h0
  obtain ⟨a1, len1, cap1, rfl⟩ := okWide_slice Tryz.underlying27 (hval 1 27 v1 rfl rfl)
  have k1 := h1
  have lt1 : ∀ x ∈ p1, x.block < W.heap.size := by obtain ⟨m, hm⟩ := k1; exact DataW.trod_lt m _ _ _ hm
  obtain ⟨z1, w1⟩ := in_ints Tryz.underlying27 Tryz.underlying5 (by kernel_rfl) h1
  clear hA0 hval0
  refine (pieces_walk a0 a1 len1 cap1 z1 W w0 w1).mono fun e W' ⟨he, bel⟩ => ?_
  subst he
  exact ⟨_, rfl, _, _, _, [], _, [], hW', trodAll_mk1 (shut_bool Tryz.underlying4 _), (trodAll_cons_mk (Go.ChangeMaps.shut_string Tryz.underlying9 w0) (trodAll_cons_mk (Below.trod readerPieces_laidOut (by kernel_rfl) (of_decide_eq_true (by kernel_rfl)) k1 bel lt1) trodAll_mk0)), rfl, bel.frame _, fun h => by cases h⟩

theorem readerPieces_tt {a b : Bool} (ha : a = true) (hb : b = true) : (a && b) = true := by rw [ha, hb]; rfl
set_option maxRecDepth 1000000 in
set_option maxHeartbeats 8000000 in
theorem readerPieces_closed : joinedFacts Tryz.pinned.checked.prog 5 Tryz.f5 Rows.readerPiecesSpec Rows.readerPiecesRow = true := by
  unfold joinedFacts
  repeat' (with_reducible refine readerPieces_tt ?_ ?_)
  all_goals (as_aux_lemma => kernel_rfl)
theorem readerPieces_named : Tryz.pinned.checked.prog.funcNamed Rows.readerPiecesRow.func = some 5 := by kernel_rfl
theorem readerPieces_inst : Tryz.f5.isInstance Tryz.pinned.checked.prog Rows.readerPiecesRow.origin Rows.readerPiecesRow.targs := of_decide_eq_true (by kernel_rfl)
theorem readerPieces_wrap : Tryz.f5.isWrapper Tryz.pinned.checked.prog Rows.readerPiecesRow.wrapper Rows.readerPiecesRow.mainSum := by
  unfold Func.isWrapper
  first | (rw [if_pos (by decide +kernel)]; kernel_rfl) | (rw [if_neg (by decide +kernel)]; exact ⟨rfl, rfl⟩)
theorem readerPieces_over : Rows.readerPiecesRow.holds Tryz.pinned (OpenSpec.ofChange Rows.readerPiecesSpec) :=
  OpenClaim.holds_of_wide 5 Tryz.f5 rfl rfl rfl rfl rfl rfl rfl ⟨rfl, rfl, rfl, rfl, rfl⟩ rfl rfl rfl rfl rfl readerPieces_named Tryz.func5 readerPieces_closed
    readerPieces_inst readerPieces_wrap
    (fun os started H enc _ => readerPieces_lifted os started H enc)

/-- The statement. -/
theorem readerPieces_holds : Rows.ReaderPiecesSaid := readerPieces_over
#print axioms readerPieces_holds
end Go.Proofs.YtjcdknhejcbpiaaGreat
