/- What a walk is told of plain structs that hold strings: one, and rows of them. -/
import Derived.Test.YtefpabicgefciaaFrame
namespace Go.Proofs.Ytefpabicgefciaa
open Go.RowKit Go.ChangeShapes Go.WideShapes Go.Deep
set_option linter.unusedVariables false

/-- A value of a plain kind: string, bool, an integer kind. -/
def fitsS : Option (Option IntKind) → Value → Prop
  | none, v => ∃ s : ByteArray, v = .string s ∧ s.size ≤ maxLen
  | some none, v => ∃ b, v = .bool b
  | some (some k), v => ∃ n, v = .int k n ∧ (Lit.int k n).wf = true
def FitsS (ks : List (Option (Option IntKind))) (vs : List Value) : Prop := vs.length = ks.length ∧ ∀ (j : Nat) (k : Option (Option IntKind)), ks[j]? = some k → ∃ v, vs[j]? = some v ∧ fitsS k v
/-- A slice of such structs that came in. -/
def InRowsS (ks : List (Option (Option IntKind))) (w : World) (a : Option Addr) (len : Nat) (ls : List (List Value)) : Prop :=
  ls.length = len ∧ (∀ vs ∈ ls, FitsS ks vs) ∧ (0 < len → ∃ b off, a = some ⟨b, off, none⟩ ∧ b < w.heap.size ∧ ∀ i j vs v, ls[i]? = some vs → vs[j]? = some v → w.cell? ⟨b, off + (i * ks.length + j), none⟩ = some v)

def fieldsSB (P : Program) (fs : Array Field) (ks : List (Option (Option IntKind))) : Bool :=
  fs.size == ks.length && (List.range ks.length).all fun j => match fs[j]?, ks[j]? with
    | some f, some k => f.offset == j && P.cellsOf f.type == 1 && (match P.underlying f.type, k with | some (.int k'), some (some k) => k' == k | some .bool, some none => true | some .string, none => true | _, _ => false)
    | _, _ => false

section
variable {H : Type} {enc : TypeId × Value → H} {P : Program} {w : World} {base : Nat} {spare : Nat → Bool} {held : Bool}

theorem fitsS_of_trod {e : TypeId} {fs : Array Field} {ks : List (Option (Option IntKind))} {n : Nat} {cs : List Value} {x : DataW H × List MemPlace} (he : P.underlying e = some (.struct fs)) (hB : fieldsSB P fs ks = true)
    (hC : P.cellsOf e = ks.length) (h : DataW.trod enc P w base spare held n e cs = some x) : FitsS ks cs := by
  obtain ⟨xs, m, _, _, hcl, hxl, hf⟩ := DataW.trod_struct he h
  simp only [fieldsSB, Bool.and_eq_true, beq_iff_eq, List.all_eq_true, List.mem_range] at hB
  obtain ⟨hsz, hB⟩ := hB
  refine ⟨by rw [hcl, hC], fun j k hk => ?_⟩
  have hj : j < ks.length := (List.getElem?_eq_some_iff.1 hk).1
  have hB' := hB j hj
  obtain ⟨f, hfj⟩ : ∃ f, fs[j]? = some f := ⟨_, Array.getElem?_eq_getElem (by omega)⟩
  rw [hfj, hk] at hB'
  simp only [Bool.and_eq_true, beq_iff_eq] at hB'
  obtain ⟨⟨ho, hc1⟩, hk'⟩ := hB'
  have h1 := hf j f hfj
  have hjc : j < cs.length := by rw [hcl, hC]; exact hj
  rw [ho, hc1, List.drop_eq_getElem_cons hjc] at h1
  simp only [List.take_succ_cons, List.take_zero] at h1
  have hxj : xs[j]? = some (xs[j]'(by omega)) := List.getElem?_eq_getElem (by omega)
  rw [hxj] at h1
  refine ⟨cs[j], List.getElem?_eq_getElem hjc, ?_⟩
  cases hu : P.underlying f.type with
  | none => rw [hu] at hk'; simp at hk'
  | some td =>
    rw [hu] at hk'
    match k, td, hk' with
    | some (some k), .int k', hk' =>
      simp at hk'
      subst hk'
      obtain ⟨n, hn, _, hw⟩ := DataW.trod_int hu h1
      simp at hn
      exact ⟨n, hn, hw⟩
    | some none, .bool, _ =>
      obtain ⟨b, hb, _⟩ := DataW.trod_bool hu h1
      simp at hb
      exact ⟨b, hb⟩
    | none, .string, _ =>
      obtain ⟨s, hs, _, hl⟩ := DataW.trod_string hu h1
      simp at hs
      exact ⟨s, hs, hl⟩

theorem in_structS {r : Reach} {b0 : Nat} {t : TypeId} {fs : Array Field} {ks : List (Option (Option IntKind))} {v : Value} {d : DataW H} {p : List MemPlace} (ht : P.underlying t = some (.struct fs)) (hB : fieldsSB P fs ks = true) (hC : P.cellsOf t = ks.length)
    (hv : Value.okWide P w r b0 t v) (h : DataW.Trod enc P w base spare held t v d p) : ∃ vs, v = .agg vs.toArray ∧ FitsS ks vs := by
  obtain ⟨cs, rfl, _⟩ := okWide_struct ht hv
  obtain ⟨fuel, hf⟩ := h
  have hf' : DataW.trod enc P w base spare held fuel t cs.toList = some (d, p) := by simpa [Value.cells] using hf
  exact ⟨cs.toList, by simp, fitsS_of_trod ht hB hC hf'⟩

theorem in_rowsS {t e : TypeId} {fs : Array Field} {ks : List (Option (Option IntKind))} {a : Option Addr} {len cap : Nat} {d : DataW H} {p : List MemPlace} (ht : P.underlying t = some (.slice e)) (he : P.underlying e = some (.struct fs))
    (hB : fieldsSB P fs ks = true) (hC : P.cellsOf e = ks.length) (hpos : 0 < ks.length) (h : DataW.Trod enc P w base spare held t (.slice a len cap) d p) : ∃ ls, InRowsS ks w a len ls := by
  obtain ⟨fuel, hf⟩ := h
  rcases open_slice ht hf with ⟨hcs, _⟩ | ⟨x, l, c, m, n, D, Pl, hcs, _, hl, hm, hmm, _, hi⟩
  · simp [Value.cells] at hcs
    obtain ⟨rfl, rfl, rfl⟩ := hcs
    exact ⟨[], rfl, by simp, fun h => absurd h (by omega)⟩
  · simp [Value.cells] at hcs
    obtain ⟨rfl, rfl, rfl⟩ := hcs
    have hlm : len ≤ m := by rw [hmm]; split <;> omega
    have hall : ∀ i, i < len → ∃ vs : List Value, FitsS ks vs ∧ ∀ j v, vs[j]? = some v → w.cell? (x.add (i * ks.length + j)) = some v := by
      intro i hil
      obtain ⟨cs', hc, htr⟩ := hi i (by omega)
      have hfit := fitsS_of_trod he hB hC htr
      rw [hC] at hc
      obtain ⟨_, hcl, hat⟩ := World.cells?_some hc
      refine ⟨cs', hfit, fun j v hv => ?_⟩
      have hj : j < ks.length := by have := (List.getElem?_eq_some_iff.1 hv).1; have := hfit.1; omega
      have := hat j hj
      rw [← Go.Deep.add_add, this, hv]
    obtain ⟨ls, hls, hr⟩ := exists_list (R := fun i vs => FitsS ks vs ∧ ∀ j v, vs[j]? = some v → w.cell? (x.add (i * ks.length + j)) = some v) len hall
    refine ⟨ls, hls, fun vs hvs => ?_, fun h0 => ?_⟩
    · obtain ⟨i, hi'⟩ := List.getElem?_of_mem hvs
      exact (hr i vs hi').1
    · have h1 : ls[0]? = some (ls[0]'(by omega)) := List.getElem?_eq_getElem (by omega)
      have hf0 := (hr 0 _ h1).1
      have hv0 : (ls[0]'(by omega))[0]? = some ((ls[0]'(by omega))[0]'(by rw [hf0.1]; exact hpos)) := List.getElem?_eq_getElem _
      have hc0 := (hr 0 _ h1).2 0 _ hv0
      have hs := World.cell?_spot hc0
      obtain ⟨b, off, spot⟩ := x
      have hs' : spot = none := by simpa [Addr.add] using hs
      subst hs'
      refine ⟨b, off, rfl, ?_, fun i j vs v hvs hv => ?_⟩
      · have := World.block_lt_of_cell? w _ hc0
        simpa [Addr.add] using this
      · have := (hr i vs hvs).2 j v hv
        rwa [addr_add] at this
end
end Go.Proofs.Ytefpabicgefciaa
