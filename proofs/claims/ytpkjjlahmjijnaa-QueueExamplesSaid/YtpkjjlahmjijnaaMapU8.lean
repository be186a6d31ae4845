/- A map that the call makes and fills with a few keys of eight bits. -/
import Derived.Test.YtpkjjlahmjijnaaLib
import Derived.MapKept
namespace Go.Proofs.Ytpkjjlahmjijnaa
open Go.RowKit
set_option linter.unusedSimpArgs false
set_option linter.unusedVariables false

/-- Block B is a map of these entries. -/
def MapAt (w : World) (B : Nat) (es : List (Int × Value)) : Prop := ∃ bs : List Nat, bs.length = es.length ∧ w.heap[B]? = some (.map ((es.zip bs).map fun x => ({ key := .int .u8 x.1.1, val := x.1.2, born := x.2 } : MapEntry)).toArray es.length)

theorem MapAt.new (w : World) : MapAt (w.alloc (.map #[] 0)) w.heap.size [] := ⟨[], rfl, heap_alloc_new w _⟩
theorem MapAt.ch {fp : Nat → Prop} {w w' : World} {B : Nat} {es : List (Int × Value)} (h : MapAt w B es) (c : Ch fp w w') (hn : ¬ fp B) : MapAt w' B es := by
  obtain ⟨bs, hl, hb⟩ := h
  exact ⟨bs, hl, (c.block B (Array.getElem?_eq_some_iff.1 hb).1 hn).trans hb⟩

/-- What is asked of such a map. -/
def u8At (es : List (Int × Value)) (k : Int) : Option Value := (es.find? fun x => k == x.1).map Prod.snd

theorem findNow_u8 (k : Int) : ∀ (es : List (Int × Value)) (bs : List Nat) (i : Nat), bs.length = es.length →
    ∃ r, Instr.findNow (.int .u8) (.int .u8 k) ((es.zip bs).map fun x => ({ key := .int .u8 x.1.1, val := x.1.2, born := x.2 } : MapEntry)) i = some r ∧ r.map Prod.snd = u8At es k := by
  intro es
  induction es with
  | nil => intro bs i h; exact ⟨none, by simp [Instr.findNow], rfl⟩
  | cons e es ih =>
    intro bs i h
    match bs, h with
    | b :: bs, h =>
      simp at h
      by_cases hk : k = e.1
      · exact ⟨some (i, e.2), by simp [Instr.findNow, Instr.sameNow, hk], by simp [u8At, hk]⟩
      · obtain ⟨r, h1, h2⟩ := ih bs (i + 1) h
        have hk' : (k == e.1) = false := by rw [beq_eq_false_iff_ne]; exact hk
        refine ⟨r, ?_, ?_⟩
        · simp [Instr.findNow, Instr.sameNow, hk']
          exact h1
        · rw [h2]; simp [u8At, List.find?_cons, hk']

section
variable {P : Program} {w : World} {ops : Array Oper} {rest : List Oper} {o : Oper} {a : Act} {Q : Exit → Act → World → Prop}

theorem run_insert_u8 {T kt et : TypeId} (hT : P.underlying T = some (.map kt et)) (hkt : P.underlying kt = some (.int .u8)) {B : Nat} {es : List (Int × Value)} (h : MapAt w B es) (key : Int) (val : Value) (hn : u8At es key = none) :
    ∃ w', (Instr.mapUpdate T (.map (some B)) (.int .u8 key) val).run P w = .ok () w' ∧ MapAt w' B (es ++ [(key, val)]) ∧ Ch (fun b => b = B) w w' := by
  obtain ⟨bs, hl, hb⟩ := h
  obtain ⟨r, h1, h2⟩ := findNow_u8 key es bs 0 hl
  have hr : r = none := by
    cases r with
    | none => rfl
    | some x => rw [hn] at h2; simp at h2
  subst hr
  have hc : (Instr.checkKey false 10000 kt (.int .u8 key)).run P w = .ok () w := MapKept.run_checkKey (k := .int .u8 key) hkt (by simp [MapKept.IsKey]) false 9999
  refine ⟨{ w with heap := w.heap.setIfInBounds B (.map (((es.zip bs).map fun x => ({ key := .int .u8 x.1.1, val := x.1.2, born := x.2 } : MapEntry)).toArray.push { key := .int .u8 key, val, born := es.length }) (es.length + 1)) }, ?_, ?_, ?_⟩
  · simp only [Instr.mapUpdate, Sem.run_bind, run_underlying hT, Result.andThen_ok, MapKept.run_getObj_map hb, hc]
    rw [MapKept.run_findKey hkt h1]
    simp only [Result.andThen_ok]
    exact MapKept.run_setObj_map _ hb
  · refine ⟨bs ++ [es.length], by simp [hl], ?_⟩
    have := (MapKept.heap_set (o' := .map (((es.zip bs).map fun x => ({ key := .int .u8 x.1.1, val := x.1.2, born := x.2 } : MapEntry)).toArray.push { key := .int .u8 key, val, born := es.length }) (es.length + 1)) hb).1
    rw [this]
    simp [List.zip_append hl.symm]
  · refine ⟨rfl, rfl, rfl, by simp, fun k _ hk => (MapKept.heap_set hb).2 k hk⟩

theorem wpList_insert_u8 (hgd : o.guard = none) (m k v : Operand) (T : TypeId) (ho : o.op = .insert T m k v) (kt et : TypeId) (hT : P.underlying T = some (.map kt et)) (hkt : P.underlying kt = some (.int .u8))
    (B : Nat) (es : List (Int × Value)) (h : MapAt w B es) (key : Int) (val : Value) (hm : a.eval m = .map (some B)) (hk : a.eval k = .int .u8 key) (hv : a.eval v = val) (hn : u8At es key = none)
    (hK : ∀ w', MapAt w' B (es ++ [(key, val)]) → Ch (fun b => b = B) w w' → wpList P ops Q rest (a.put o.dst undef) w') : wpList P ops Q (o :: rest) a w := by
  refine wpList_plain hgd fun K' hK' => ?_
  obtain ⟨w', hrun, r1, r2⟩ := run_insert_u8 hT hkt h key val hn
  unfold Oper.wp
  simp [execOp, ho, hm, hk, hv, hrun, Result.andThen]
  exact hK' _ _ (hK w' r1 r2)

theorem run_lookup_u8 {T kt et : TypeId} (hT : P.underlying T = some (.map kt et)) (hkt : P.underlying kt = some (.int .u8)) {B : Nat} {es : List (Int × Value)} (h : MapAt w B es) (key : Int) (z : Value) (hz : (zeroValue et).run P w = .ok z w) :
    (Instr.lookup T (.map (some B)) (.int .u8 key) false).run P w = .ok ((u8At es key).getD z) w := by
  obtain ⟨bs, hl, hb⟩ := h
  obtain ⟨r, h1, h2⟩ := findNow_u8 key es bs 0 hl
  have hc : ∀ b, (Instr.checkKey b 10000 kt (.int .u8 key)).run P w = .ok () w := fun b => MapKept.run_checkKey (k := .int .u8 key) hkt (by simp [MapKept.IsKey]) b 9999
  simp only [Instr.lookup, Sem.run_bind, run_underlying hT, Result.andThen_ok, MapKept.run_getObj_map hb, Sem.run_pure, hc]
  rw [MapKept.run_findKey hkt h1]
  cases r with
  | none =>
    have h2' : u8At es key = none := by rw [← h2]; rfl
    simp [hz, h2', Result.andThen]
  | some x =>
    have h2' : u8At es key = some x.2 := by rw [← h2]; rfl
    simp [h2', Result.andThen]

theorem wpList_lookup_u8 (hgd : o.guard = none) (m k : Operand) (T : TypeId) (ho : o.op = .lookup T m k false) (kt et : TypeId) (hT : P.underlying T = some (.map kt et)) (hkt : P.underlying kt = some (.int .u8))
    (B : Nat) (es : List (Int × Value)) (h : MapAt w B es) (key : Int) (z : Value) (hz : (zeroValue et).run P w = .ok z w) (hm : a.eval m = .map (some B)) (hk : a.eval k = .int .u8 key)
    (r : Value) (hr : (u8At es key).getD z = r) (hK : wpList P ops Q rest (a.put o.dst r) w) : wpList P ops Q (o :: rest) a w := by
  refine wpList_plain hgd fun K' hK' => ?_
  have hrun := run_lookup_u8 hT hkt h key z hz
  rw [hr] at hrun
  unfold Oper.wp
  simp [execOp, ho, hm, hk, hrun, Result.andThen]
  exact hK' _ _ hK
end
end Go.Proofs.Ytpkjjlahmjijnaa
