/- What a walk is told of structs within structs, and of structs that hold slices of plain structs. -/
import Derived.Test.YtefpabicgefciaaFrameS
namespace Go.Proofs.Ytefpabicgefciaa
open Go.RowKit Go.ChangeShapes Go.WideShapes Go.Deep
set_option linter.unusedVariables false
set_option linter.unusedSimpArgs false

/-- A plain kind; or a slice of structs of plain kinds. -/
abbrev K0 := Option (Option IntKind)
abbrev K1 := K0 ⊕ List K0
def fitsN (w : World) : K1 → Value → Prop
  | .inl k, v => fitsS k v
  | .inr ks, v => ∃ a n c ls, v = .slice a n c ∧ n ≤ c ∧ c ≤ maxLen ∧ (a = none → c = 0) ∧ InRowsS ks w a n ls
def FitsN (w : World) (ks : List K1) (vs : List Value) : Prop := vs.length = ks.length ∧ ∀ (j : Nat) (k : K1), ks[j]? = some k → ∃ v, vs[j]? = some v ∧ fitsN w k v
/-- A slice of such structs that came in. -/
def InRowsN (ks : List K1) (w : World) (a : Option Addr) (len : Nat) (ls : List (List Value)) : Prop :=
  ls.length = len ∧ (∀ vs ∈ ls, FitsN w ks vs) ∧ (0 < len → ∃ b off, a = some ⟨b, off, none⟩ ∧ b < w.heap.size ∧ ∀ i j vs v, ls[i]? = some vs → vs[j]? = some v → w.cell? ⟨b, off + (i * ks.length + j), none⟩ = some v)

/-- Does a type consist of these kinds? -/
def flatOk (P : Program) : Nat → TypeId → List K1 → Bool
  | 0, _, _ => false
  | n + 1, t, ks => match P.underlying t with
    | some (.int k) => match ks with
      | [.inl (some (some k'))] => k' == k
      | _ => false
    | some .bool => match ks with
      | [.inl (some none)] => true
      | _ => false
    | some .string => match ks with
      | [.inl none] => true
      | _ => false
    | some (.slice e) => match ks with
      | [.inr ks'] => 0 < ks'.length && P.cellsOf e == ks'.length && flatOk P n e (ks'.map Sum.inl)
      | _ => false
    | some (.struct fs) => P.cellsOf t == ks.length && ((List.range fs.size).all fun j => match fs[j]? with
        | some f => decide (f.offset + P.cellsOf f.type ≤ ks.length) && flatOk P n f.type ((ks.drop f.offset).take (P.cellsOf f.type))
        | none => false) && ((List.range ks.length).all fun i => (List.range fs.size).any fun j => match fs[j]? with
        | some f => decide (f.offset ≤ i ∧ i < f.offset + P.cellsOf f.type)
        | none => false)
    | _ => false

theorem fitsS_of_N {w : World} {ks : List K0} {vs : List Value} (h : FitsN w (ks.map Sum.inl) vs) : FitsS ks vs := by
  obtain ⟨hl, hf⟩ := h
  refine ⟨by simpa using hl, fun j k hk => ?_⟩
  exact hf j (.inl k) (by simp [hk])

section
variable {H : Type} {enc : TypeId × Value → H} {P : Program} {w : World} {base : Nat} {spare : Nat → Bool} {held : Bool}

theorem fits_one {k : K1} {v : Value} (h : fitsN w k v) : FitsN w [k] [v] :=
  ⟨rfl, fun j k' hk => by
    match j, hk with
    | 0, hk => injection hk with hk; subst hk; exact ⟨v, rfl, h⟩
    | j + 1, hk => simp at hk⟩

theorem rows_of_slice {n : Nat} (ih : ∀ (t : TypeId) (ks : List K1) (m : Nat) (cs : List Value) (x : DataW H × List MemPlace), flatOk P n t ks = true → DataW.trod enc P w base spare held m t cs = some x → FitsN w ks cs)
    {t e : TypeId} {ks : List K1} {m : Nat} {cs : List Value} {x : DataW H × List MemPlace} (ht : P.underlying t = some (.slice e)) (hB : flatOk P n e ks = true) (hC : P.cellsOf e = ks.length) (hpos : 0 < ks.length)
    (hf : DataW.trod enc P w base spare held m t cs = some x) : ∃ a len cap ls, cs = [.slice a len cap] ∧ len ≤ cap ∧ cap ≤ maxLen ∧ (a = none → cap = 0) ∧ InRowsN ks w a len ls := by
  rcases open_slice ht hf with ⟨hcs, _⟩ | ⟨x, len, c, m, n, D, Pl, hcs, _, hl, hm, hmm, _, hi⟩
  · exact ⟨none, 0, 0, [], hcs, Nat.le_refl _, Nat.zero_le _, fun _ => rfl, rfl, by simp, fun h => absurd h (by omega)⟩
  · have hlm : len ≤ m := by rw [hmm]; split <;> omega
    have hall : ∀ i, i < len → ∃ vs : List Value, FitsN w ks vs ∧ ∀ j v, vs[j]? = some v → w.cell? (x.add (i * ks.length + j)) = some v := by
      intro i hil
      obtain ⟨cs', hc, htr⟩ := hi i (by omega)
      have hfit := ih _ _ _ _ _ hB htr
      rw [hC] at hc
      obtain ⟨_, hcl, hat⟩ := World.cells?_some hc
      refine ⟨cs', hfit, fun j v hv => ?_⟩
      have hj : j < ks.length := by have := (List.getElem?_eq_some_iff.1 hv).1; have := hfit.1; omega
      have := hat j hj
      rw [← Go.Deep.add_add, this, hv]
    obtain ⟨ls, hls, hr⟩ := exists_list (R := fun i vs => FitsN w ks vs ∧ ∀ j v, vs[j]? = some v → w.cell? (x.add (i * ks.length + j)) = some v) len hall
    refine ⟨some x, len, c, ls, hcs, hl, hm, (fun h => by cases h), hls, fun vs hvs => ?_, fun h0 => ?_⟩
    · obtain ⟨i, hi'⟩ := List.getElem?_of_mem hvs
      exact (hr i vs hi').1
    · have h1 : ls[0]? = some (ls[0]'(by omega)) := List.getElem?_eq_getElem (by omega)
      have hf0 := (hr 0 _ h1).1
      have hv0 : (ls[0]'(by omega))[0]? = some ((ls[0]'(by omega))[0]'(by rw [hf0.1]; exact hpos)) := List.getElem?_eq_getElem _
      have hc0 := (hr 0 _ h1).2 0 _ hv0
      have hs := World.cell?_spot hc0
      obtain ⟨b, off, spot⟩ := x
      have hs' : spot = none := by simpa [Addr.add] using hs
      subst hs'
      refine ⟨b, off, rfl, ?_, fun i j vs v hvs hv => ?_⟩
      · have := World.block_lt_of_cell? w _ hc0
        simpa [Addr.add] using this
      · have := (hr i vs hvs).2 j v hv
        rwa [addr_add] at this

theorem fitsN_of_trod : ∀ (n : Nat) (t : TypeId) (ks : List K1) (m : Nat) (cs : List Value) (x : DataW H × List MemPlace), flatOk P n t ks = true → DataW.trod enc P w base spare held m t cs = some x → FitsN w ks cs
  | 0, t, ks, m, cs, x, hB, _ => by simp [flatOk] at hB
  | n + 1, t, ks, m, cs, x, hB, h => by
    have ih := fitsN_of_trod n
    unfold flatOk at hB
    split at hB
    · rename_i k hu
      split at hB
      · simp only [beq_iff_eq] at hB
        subst hB
        obtain ⟨i, hi, _, hw⟩ := DataW.trod_int hu h
        rw [hi]
        exact fits_one ⟨i, rfl, hw⟩
      · cases hB
    · rename_i hu
      split at hB
      · obtain ⟨b, hb, _⟩ := DataW.trod_bool hu h
        rw [hb]
        exact fits_one ⟨b, rfl⟩
      · cases hB
    · rename_i hu
      split at hB
      · obtain ⟨s, hs, _, hl⟩ := DataW.trod_string hu h
        rw [hs]
        exact fits_one ⟨s, rfl, hl⟩
      · cases hB
    · rename_i e hu
      split at hB
      · rename_i ks'
        simp only [Bool.and_eq_true, decide_eq_true_eq, beq_iff_eq] at hB
        obtain ⟨⟨hp, hc⟩, hB⟩ := hB
        obtain ⟨a, len, cap, ls, rfl, h1, h2, h3, hls, hall, hcell⟩ := rows_of_slice ih hu hB (by rw [hc, List.length_map]) (by rw [List.length_map]; exact hp) h
        refine fits_one ⟨a, len, cap, ls, rfl, h1, h2, h3, hls, fun vs hvs => fitsS_of_N (hall vs hvs), ?_⟩
        rw [List.length_map] at hcell
        exact hcell
      · cases hB
    · rename_i fs hu
      simp only [Bool.and_eq_true, beq_iff_eq, List.all_eq_true, List.mem_range] at hB
      obtain ⟨⟨hC, hB1⟩, hB2⟩ := hB
      obtain ⟨xs, m', _, _, hcl, hxl, hf⟩ := DataW.trod_struct hu h
      refine ⟨by rw [hcl, hC], fun j k hk => ?_⟩
      have hj : j < ks.length := (List.getElem?_eq_some_iff.1 hk).1
      have hc := hB2 j hj
      rw [List.any_eq_true] at hc
      obtain ⟨i, hi, hfi⟩ := hc
      rw [List.mem_range] at hi
      have hb1 := hB1 i hi
      obtain ⟨f, hfj⟩ : ∃ f, fs[i]? = some f := ⟨_, Array.getElem?_eq_getElem hi⟩
      rw [hfj] at hfi hb1
      simp only [decide_eq_true_eq, Bool.and_eq_true] at hfi hb1
      have h1 := hf i f hfj
      rw [show xs[i]? = some (xs[i]'(by omega)) from List.getElem?_eq_getElem (by omega)] at h1
      obtain ⟨_, hfit⟩ := ih _ _ _ _ _ hb1.2 h1
      have hk' : ((ks.drop f.offset).take (P.cellsOf f.type))[j - f.offset]? = some k := by
        rw [List.getElem?_take, if_pos (by omega), List.getElem?_drop, show f.offset + (j - f.offset) = j by omega]
        exact hk
      obtain ⟨v, hv, hfv⟩ := hfit _ _ hk'
      refine ⟨v, ?_, hfv⟩
      rw [List.getElem?_take, if_pos (by omega), List.getElem?_drop, show f.offset + (j - f.offset) = j by omega] at hv
      exact hv
    · cases hB

theorem in_structN {r : Reach} {b0 : Nat} {t : TypeId} {fs : Array Field} {ks : List K1} {v : Value} {d : DataW H} {p : List MemPlace} (ht : P.underlying t = some (.struct fs)) (hB : flatOk P 6 t ks = true)
    (hv : Value.okWide P w r b0 t v) (h : DataW.Trod enc P w base spare held t v d p) : ∃ vs, v = .agg vs.toArray ∧ FitsN w ks vs := by
  obtain ⟨cs, rfl, _⟩ := okWide_struct ht hv
  obtain ⟨fuel, hf⟩ := h
  have hf' : DataW.trod enc P w base spare held fuel t cs.toList = some (d, p) := by simpa [Value.cells] using hf
  exact ⟨cs.toList, by simp, fitsN_of_trod 6 _ _ _ _ _ hB hf'⟩

theorem in_rowsN {t e : TypeId} {ks : List K1} {a : Option Addr} {len cap : Nat} {d : DataW H} {p : List MemPlace} (ht : P.underlying t = some (.slice e))
    (hB : flatOk P 6 e ks = true) (hC : P.cellsOf e = ks.length) (hpos : 0 < ks.length) (h : DataW.Trod enc P w base spare held t (.slice a len cap) d p) : ∃ ls, InRowsN ks w a len ls := by
  obtain ⟨fuel, hf⟩ := h
  have hf' : DataW.trod enc P w base spare held fuel t [.slice a len cap] = some (d, p) := by simpa [Value.cells] using hf
  obtain ⟨a', len', cap', ls, hcs, _, _, _, hr⟩ := rows_of_slice (fun t ks m cs x => fitsN_of_trod 6 t ks m cs x) ht hB hC hpos hf'
  simp at hcs
  obtain ⟨rfl, rfl, rfl⟩ := hcs
  exact ⟨ls, hr⟩
end
end Go.Proofs.Ytefpabicgefciaa
