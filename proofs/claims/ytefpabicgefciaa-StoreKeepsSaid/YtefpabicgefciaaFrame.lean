/- What a walk is told of an argument: rows of integers, rows of plain structs, plain structs. -/
import Derived.Test.YtefpabicgefciaaLib
import Derived.ProofKit
import Derived.OpenShut
import Derived.ShutString
import Derived.ChangeOld
import Derived.Below
import Derived.Deep.Slices
import Derived.Deep.Fields
import Derived.ChangeSame
namespace Go.Proofs.Ytefpabicgefciaa
open Go.RowKit Go.ChangeShapes Go.WideShapes Go.Deep
set_option linter.unusedSimpArgs false
set_option linter.unusedVariables false

/-- A slice of integers that came in. -/
def InInts (k : IntKind) (w : World) (a : Option Addr) (len : Nat) (zs : List Int) : Prop :=
  zs.length = len ∧ (∀ n ∈ zs, (Lit.int k n).wf = true) ∧ (0 < len → ∃ b off, a = some ⟨b, off, none⟩ ∧ b < w.heap.size ∧ ∀ i, i < len → w.cell? ⟨b, off + i, none⟩ = some (.int k (lk zs i)))

/-- A value of a plain kind: an integer kind, or none for bool. -/
def fitsV : Option IntKind → Value → Prop
  | some k, v => ∃ n, v = .int k n ∧ (Lit.int k n).wf = true
  | none, v => ∃ b, v = .bool b
def Fits (ks : List (Option IntKind)) (vs : List Value) : Prop := vs.length = ks.length ∧ ∀ (j : Nat) (k : Option IntKind), ks[j]? = some k → ∃ v, vs[j]? = some v ∧ fitsV k v

/-- A slice of plain structs that came in. -/
def InRows (ks : List (Option IntKind)) (w : World) (a : Option Addr) (len : Nat) (ls : List (List Value)) : Prop :=
  ls.length = len ∧ (∀ vs ∈ ls, Fits ks vs) ∧ (0 < len → ∃ b off, a = some ⟨b, off, none⟩ ∧ b < w.heap.size ∧ ∀ i j vs v, ls[i]? = some vs → vs[j]? = some v → w.cell? ⟨b, off + (i * ks.length + j), none⟩ = some v)

def fieldsB (P : Program) (fs : Array Field) (ks : List (Option IntKind)) : Bool :=
  fs.size == ks.length && (List.range ks.length).all fun j => match fs[j]?, ks[j]? with
    | some f, some k => f.offset == j && P.cellsOf f.type == 1 && (match P.underlying f.type, k with | some (.int k'), some k => k' == k | some .bool, none => true | _, _ => false)
    | _, _ => false

section
variable {H : Type} {enc : TypeId × Value → H} {P : Program} {w : World} {base : Nat} {spare : Nat → Bool} {held : Bool}

theorem exists_list {α : Type} {R : Nat → α → Prop} : ∀ n, (∀ i, i < n → ∃ x, R i x) → ∃ l : List α, l.length = n ∧ ∀ i x, l[i]? = some x → R i x
  | 0, _ => ⟨[], rfl, by simp⟩
  | n + 1, h => by
    obtain ⟨l, hl, hr⟩ := exists_list n (fun i hi => h i (by omega))
    obtain ⟨x, hx⟩ := h n (by omega)
    refine ⟨l ++ [x], by simp [hl], fun i y hy => ?_⟩
    by_cases hi : i < n
    · rw [List.getElem?_append_left (by omega)] at hy; exact hr i y hy
    · have : i = n := by
        have := (List.getElem?_eq_some_iff.1 hy).1
        simp [hl] at this; omega
      subst this
      rw [List.getElem?_append_right (by omega), hl] at hy
      simp at hy
      subst hy
      exact hx

theorem in_ints {t e : TypeId} {k : IntKind} {a : Option Addr} {len cap : Nat} {d : DataW H} {p : List MemPlace} (ht : P.underlying t = some (.slice e)) (he : P.underlying e = some (.int k)) (hc : P.cellsOf e = 1)
    (h : DataW.Trod enc P w base spare held t (.slice a len cap) d p) : ∃ zs, InInts k w a len zs := by
  obtain ⟨fuel, hf⟩ := h
  rcases open_ints ht he hc hf with ⟨hcs, _⟩ | ⟨x, l, c, zs, hcs, _, hl, hm, hz, _, hcell, hwz⟩
  · simp [Value.cells] at hcs
    obtain ⟨rfl, rfl, rfl⟩ := hcs
    exact ⟨[], rfl, by simp, fun h => absurd h (by omega)⟩
  · simp [Value.cells] at hcs
    obtain ⟨rfl, rfl, rfl⟩ := hcs
    have hlz : len ≤ zs.length := by rw [hz]; split <;> omega
    refine ⟨zs.take len, by simp; omega, fun n hn => hwz n (List.mem_of_mem_take hn), fun h0 => ?_⟩
    have hc0 := hcell 0 (by omega)
    have hs := World.cell?_spot hc0
    obtain ⟨b, off, spot⟩ := x
    have hs' : spot = none := by simpa [Addr.add] using hs
    subst hs'
    refine ⟨b, off, rfl, ?_, fun i hi => ?_⟩
    · have := World.block_lt_of_cell? w _ hc0
      simpa [Addr.add] using this
    · have := hcell i (by omega)
      rw [addr_add] at this
      rw [this]
      simp [lk, List.getD_eq_getElem?_getD, hi]

theorem fits_of_trod {e : TypeId} {fs : Array Field} {ks : List (Option IntKind)} {n : Nat} {cs : List Value} {x : DataW H × List MemPlace} (he : P.underlying e = some (.struct fs)) (hB : fieldsB P fs ks = true)
    (hC : P.cellsOf e = ks.length) (h : DataW.trod enc P w base spare held n e cs = some x) : Fits ks cs := by
  obtain ⟨xs, m, _, _, hcl, hxl, hf⟩ := DataW.trod_struct he h
  simp only [fieldsB, Bool.and_eq_true, beq_iff_eq, List.all_eq_true, List.mem_range] at hB
  obtain ⟨hsz, hB⟩ := hB
  refine ⟨by rw [hcl, hC], fun j k hk => ?_⟩
  have hj : j < ks.length := (List.getElem?_eq_some_iff.1 hk).1
  have hB' := hB j hj
  obtain ⟨f, hfj⟩ : ∃ f, fs[j]? = some f := ⟨_, Array.getElem?_eq_getElem (by omega)⟩
  rw [hfj, hk] at hB'
  simp only [Bool.and_eq_true, beq_iff_eq] at hB'
  obtain ⟨⟨ho, hc1⟩, hk'⟩ := hB'
  have h1 := hf j f hfj
  have hjc : j < cs.length := by rw [hcl, hC]; exact hj
  rw [ho, hc1, List.drop_eq_getElem_cons hjc] at h1
  simp only [List.take_succ_cons, List.take_zero] at h1
  have hxj : xs[j]? = some (xs[j]'(by omega)) := List.getElem?_eq_getElem (by omega)
  rw [hxj] at h1
  refine ⟨cs[j], List.getElem?_eq_getElem hjc, ?_⟩
  cases k with
  | some k =>
    cases hu : P.underlying f.type with
    | none => rw [hu] at hk'; simp at hk'
    | some td =>
      rw [hu] at hk'
      cases td <;> simp at hk'
      case int k' =>
        subst hk'
        obtain ⟨n, hn, _, hw⟩ := DataW.trod_int hu h1
        simp at hn
        exact ⟨n, hn, hw⟩
  | none =>
    cases hu : P.underlying f.type with
    | none => rw [hu] at hk'; simp at hk'
    | some td =>
      rw [hu] at hk'
      cases td <;> simp at hk'
      case bool =>
        obtain ⟨b, hb, _⟩ := DataW.trod_bool hu h1
        simp at hb
        exact ⟨b, hb⟩

theorem in_rows {t e : TypeId} {fs : Array Field} {ks : List (Option IntKind)} {a : Option Addr} {len cap : Nat} {d : DataW H} {p : List MemPlace} (ht : P.underlying t = some (.slice e)) (he : P.underlying e = some (.struct fs))
    (hB : fieldsB P fs ks = true) (hC : P.cellsOf e = ks.length) (hpos : 0 < ks.length) (h : DataW.Trod enc P w base spare held t (.slice a len cap) d p) : ∃ ls, InRows ks w a len ls := by
  obtain ⟨fuel, hf⟩ := h
  rcases open_slice ht hf with ⟨hcs, _⟩ | ⟨x, l, c, m, n, D, Pl, hcs, _, hl, hm, hmm, _, hi⟩
  · simp [Value.cells] at hcs
    obtain ⟨rfl, rfl, rfl⟩ := hcs
    exact ⟨[], rfl, by simp, fun h => absurd h (by omega)⟩
  · simp [Value.cells] at hcs
    obtain ⟨rfl, rfl, rfl⟩ := hcs
    have hlm : len ≤ m := by rw [hmm]; split <;> omega
    have hall : ∀ i, i < len → ∃ vs : List Value, Fits ks vs ∧ ∀ j v, vs[j]? = some v → w.cell? (x.add (i * ks.length + j)) = some v := by
      intro i hil
      obtain ⟨cs', hc, htr⟩ := hi i (by omega)
      have hfit := fits_of_trod he hB hC htr
      rw [hC] at hc
      obtain ⟨_, hcl, hat⟩ := World.cells?_some hc
      refine ⟨cs', hfit, fun j v hv => ?_⟩
      have hj : j < ks.length := by have := (List.getElem?_eq_some_iff.1 hv).1; have := hfit.1; omega
      have := hat j hj
      rw [← Go.Deep.add_add, this, hv]
    obtain ⟨ls, hls, hr⟩ := exists_list (R := fun i vs => Fits ks vs ∧ ∀ j v, vs[j]? = some v → w.cell? (x.add (i * ks.length + j)) = some v) len hall
    refine ⟨ls, hls, fun vs hvs => ?_, fun h0 => ?_⟩
    · obtain ⟨i, hi'⟩ := List.getElem?_of_mem hvs
      exact (hr i vs hi').1
    · have h1 : ls[0]? = some (ls[0]'(by omega)) := List.getElem?_eq_getElem (by omega)
      have hf0 := (hr 0 _ h1).1
      have hv0 : (ls[0]'(by omega))[0]? = some ((ls[0]'(by omega))[0]'(by rw [hf0.1]; exact hpos)) := List.getElem?_eq_getElem _
      have hc0 := (hr 0 _ h1).2 0 _ hv0
      have hs := World.cell?_spot hc0
      obtain ⟨b, off, spot⟩ := x
      have hs' : spot = none := by simpa [Addr.add] using hs
      subst hs'
      refine ⟨b, off, rfl, ?_, fun i j vs v hvs hv => ?_⟩
      · have := World.block_lt_of_cell? w _ hc0
        simpa [Addr.add] using this
      · have := (hr i vs hvs).2 j v hv
        rwa [addr_add] at this

theorem cap_of_trod {t e : TypeId} {a : Option Addr} {len cap : Nat} {d : DataW H} {p : List MemPlace} (ht : P.underlying t = some (.slice e)) (h : DataW.Trod enc P w base spare held t (.slice a len cap) d p) : len ≤ cap ∧ (a = none → cap = 0) := by
  obtain ⟨fuel, hf⟩ := h
  rcases open_slice ht hf with ⟨hcs, _⟩ | ⟨x, l, c, m, n, D, Pl, hcs, _, hl, _⟩
  · simp [Value.cells] at hcs
    obtain ⟨rfl, rfl, rfl⟩ := hcs
    exact ⟨Nat.le_refl _, fun _ => rfl⟩
  · simp [Value.cells] at hcs
    obtain ⟨rfl, rfl, rfl⟩ := hcs
    exact ⟨hl, fun h => by cases h⟩

theorem in_struct {r : Reach} {b0 : Nat} {t : TypeId} {fs : Array Field} {ks : List (Option IntKind)} {v : Value} {d : DataW H} {p : List MemPlace} (ht : P.underlying t = some (.struct fs)) (hB : fieldsB P fs ks = true) (hC : P.cellsOf t = ks.length)
    (hv : Value.okWide P w r b0 t v) (h : DataW.Trod enc P w base spare held t v d p) : ∃ vs, v = .agg vs.toArray ∧ Fits ks vs := by
  obtain ⟨cs, rfl, _⟩ := okWide_struct ht hv
  obtain ⟨fuel, hf⟩ := h
  have hf' : DataW.trod enc P w base spare held fuel t cs.toList = some (d, p) := by simpa [Value.cells] using hf
  exact ⟨cs.toList, by simp, fits_of_trod ht hB hC hf'⟩
end

/-- The integers of a kind that fit it. -/
theorem wf_u8 {n : Int} (h : (Lit.int .u8 n).wf = true) : 0 ≤ n ∧ n < 256 := by
  simp [Lit.wf, IntKind.min, IntKind.max, IntKind.signed, IntKind.bits] at h; omega
theorem wf_u64 {n : Int} (h : (Lit.int .u64 n).wf = true) : 0 ≤ n ∧ n < 18446744073709551616 := by
  simp [Lit.wf, IntKind.min, IntKind.max, IntKind.signed, IntKind.bits] at h; omega
theorem wf_i64 {n : Int} (h : (Lit.int .i64 n).wf = true) : -9223372036854775808 ≤ n ∧ n < 9223372036854775808 := by
  simp [Lit.wf, IntKind.min, IntKind.max, IntKind.signed, IntKind.bits] at h; omega
theorem InInts.mem {k : IntKind} {w : World} {a : Option Addr} {len : Nat} {zs : List Int} (h : InInts k w a len zs) {i : Nat} (hi : i < len) : (Lit.int k (lk zs i)).wf = true := by
  refine h.2.1 _ ?_
  have := h.1
  rw [lk, List.getD_eq_getElem?_getD, List.getElem?_eq_getElem (by omega)]
  exact List.getElem_mem _
end Go.Proofs.Ytefpabicgefciaa
