/- A list of things in memory, all apart: each holds, and what changes one of them keeps the others. -/
import Derived.Test.YtonjbofdmmnpdaaLib
namespace Go.Proofs.Ytonjbofdmmnpdaa
open Go.RowKit
set_option linter.unusedVariables false

/-- A thing in memory: what is said of it, and its blocks. -/
structure It where
  P : World → Prop
  bl : List Nat

/-- A block known whole. -/
def It.blk (g : Nat) (t : TypeId) (cs : Array Value) : It := ⟨fun w => Blk w g t cs, [g]⟩
/-- A slice of the call's own, that may grow. -/
def It.row (B e size n : Nat) (v : Value) (xs : List Value) : It := ⟨fun w => w.ownsRow B e size v n xs, v.ownBlock.toList⟩
/-- Nothing. -/
def It.nil : It := ⟨fun _ => True, []⟩

structure It.Fine (i : It) (B : Nat) (w : World) : Prop where
  hold : i.P w
  keep : ∀ w', (∀ k ∈ i.bl, w'.heap[k]? = w.heap[k]?) → i.P w'
  low : ∀ k ∈ i.bl, B ≤ k
  high : ∀ k ∈ i.bl, k < w.heap.size
  nodup : i.bl.Nodup

structure Heap (B : Nat) (w : World) (L : List It) : Prop where
  size : B ≤ w.heap.size
  fine : ∀ i ∈ L, i.Fine B w
  nodup : (L.flatMap It.bl).Nodup

section
variable {B : Nat} {w w' : World} {L : List It} {fp : Nat → Prop} {it it' : It}

theorem It.Fine.ch {i : It} (h : i.Fine B w) (c : Ch fp w w') (hn : ∀ k ∈ i.bl, ¬ fp k) : i.Fine B w' :=
  have he : ∀ k ∈ i.bl, w'.heap[k]? = w.heap[k]? := fun k hk => c.block k (h.high k hk) (hn k hk)
  ⟨h.keep w' he, fun w'' h' => h.keep w'' (fun k hk => (h' k hk).trans (he k hk)), h.low, fun k hk => Nat.lt_of_lt_of_le (h.high k hk) c.size, h.nodup⟩

theorem It.fine_blk {g : Nat} {t : TypeId} {cs : Array Value} (h : Blk w g t cs) (hB : B ≤ g) : (It.blk g t cs).Fine B w :=
  ⟨h, fun w' hk => (hk g (by simp [It.blk])).trans h, by simp [It.blk, hB], by simp [It.blk, h.lt], by simp [It.blk]⟩

theorem It.fine_row {e size n : Nat} {v : Value} {xs : List Value} (h : w.ownsRow B e size v n xs) : (It.row B e size n v xs).Fine B w := by
  refine ⟨h, fun w' hk => ?_, fun k hk => (h.lt k (by simpa [It.row] using hk)).1, fun k hk => (h.lt k (by simpa [It.row] using hk)).2, ?_⟩
  · refine ⟨h.1, ?_⟩
    rcases h.2 with hv | ⟨g, cap, cur, rfl, hB, hg, rest⟩
    · exact .inl hv
    · exact .inr ⟨g, cap, cur, rfl, hB, (hk g (by simp [It.row, Value.ownBlock])).trans hg, rest⟩
  · simp only [It.row]
    cases v.ownBlock <;> simp

theorem It.fine_nil : It.nil.Fine B w := ⟨trivial, fun _ _ => trivial, by simp [It.nil], by simp [It.nil], by simp [It.nil]⟩

theorem Heap.nil (hB : B ≤ w.heap.size) : Heap B w [] := ⟨hB, by simp, by simp⟩

theorem flat_mem {L : List It} {k : Nat} : k ∈ L.flatMap It.bl ↔ ∃ i ∈ L, k ∈ i.bl := List.mem_flatMap

theorem Heap.get {k : Nat} (h : Heap B w L) (hk : L[k]? = some it) : it.Fine B w := h.fine it (List.mem_of_getElem? hk)

theorem split_at {α : Type} {L : List α} {k : Nat} {x : α} (hk : L[k]? = some x) : ∃ A C, L = A ++ x :: C ∧ A.length = k := by
  have hlt : k < L.length := (List.getElem?_eq_some_iff.1 hk).1
  refine ⟨L.take k, L.drop (k + 1), ?_, by simp; omega⟩
  rw [List.getElem?_eq_getElem hlt] at hk
  have := Option.some.inj hk
  subst this
  simp

theorem set_mid {α : Type} {A C : List α} {x y : α} : (A ++ x :: C).set A.length y = A ++ y :: C := by simp

/-- Two things of the list have no block in common. -/
theorem Heap.apart {i j : Nat} {a b : It} (h : Heap B w L) (hi : L[i]? = some a) (hj : L[j]? = some b) (hij : i ≠ j) : ∀ k ∈ a.bl, k ∉ b.bl := by
  intro k ka kb
  obtain ⟨A, C, rfl, rfl⟩ := split_at hi
  have hn := h.nodup
  simp only [List.flatMap_append, List.flatMap_cons, List.nodup_append] at hn
  have hb : b ∈ A ∨ b ∈ C := by
    rcases Nat.lt_or_ge j A.length with hlt | hge
    · rw [List.getElem?_append_left hlt] at hj; exact .inl (List.mem_of_getElem? hj)
    · rw [List.getElem?_append_right hge] at hj
      obtain ⟨m, hm⟩ : ∃ m, j - A.length = m + 1 := ⟨j - A.length - 1, by omega⟩
      rw [hm, List.getElem?_cons_succ] at hj
      exact .inr (List.mem_of_getElem? hj)
  rcases hb with hb | hb
  · exact hn.2.2 k (flat_mem.2 ⟨b, hb, kb⟩) k (by simp [ka]) rfl
  · exact hn.2.1.2.2 k ka k (flat_mem.2 ⟨b, hb, kb⟩) rfl

/-- One thing changes. -/
theorem Heap.lift {k : Nat} (h : Heap B w L) (hk : L[k]? = some it) (c : Ch fp w w') (hfp : ∀ b, b < w.heap.size → fp b → b < B ∨ b ∈ it.bl) (hf : it'.Fine B w') (hb : ∀ b ∈ it'.bl, b ∈ it.bl ∨ w.heap.size ≤ b) :
    Heap B w' (L.set k it') := by
  obtain ⟨A, C, rfl, rfl⟩ := split_at hk
  rw [set_mid]
  have hn := h.nodup
  simp only [List.flatMap_append, List.flatMap_cons, List.nodup_append, List.mem_append] at hn
  have oth : ∀ i, (i ∈ A ∨ i ∈ C) → ∀ b ∈ i.bl, b ∉ it.bl := fun i hi b hb hbi => by
    rcases hi with hi | hi
    · exact hn.2.2 b (flat_mem.2 ⟨i, hi, hb⟩) b (.inl hbi) rfl
    · exact hn.2.1.2.2 b hbi b (flat_mem.2 ⟨i, hi, hb⟩) rfl
  have keep : ∀ i, (i ∈ A ∨ i ∈ C) → i.Fine B w' := fun i hi => by
    have hfi := h.fine i (by rcases hi with hi | hi <;> simp [hi])
    refine hfi.ch c (fun b hb hfb => ?_)
    rcases hfp b (hfi.high b hb) hfb with h1 | h1
    · exact absurd (hfi.low b hb) (by omega)
    · exact oth i hi b hb h1
  refine ⟨Nat.le_trans h.size c.size, fun i hi => ?_, ?_⟩
  · rcases List.mem_append.1 hi with hi | hi
    · exact keep i (.inl hi)
    · rcases List.mem_cons.1 hi with hi | hi
      · rw [hi]; exact hf
      · exact keep i (.inr hi)
  simp only [List.flatMap_append, List.flatMap_cons, List.nodup_append, List.mem_append]
  refine ⟨hn.1, ⟨hf.nodup, hn.2.1.2.1, fun a ha b hb' hab => ?_⟩, fun a ha b hb' hab => ?_⟩
  · subst hab
    obtain ⟨i, hi, hai⟩ := flat_mem.1 hb'
    rcases hb a ha with h1 | h1
    · exact oth i (.inr hi) a hai h1
    · have := (h.fine i (by simp [hi])).high a hai; omega
  · subst hab
    obtain ⟨i, hi, hai⟩ := flat_mem.1 ha
    rcases hb' with hb' | hb'
    · rcases hb a hb' with h1 | h1
      · exact oth i (.inl hi) a hai h1
      · have := (h.fine i (by simp [hi])).high a hai; omega
    · exact hn.2.2 a ha a (.inr hb') rfl

/-- Nothing of the list changes. -/
theorem Heap.keep (h : Heap B w L) (c : Ch fp w w') (hfp : ∀ b, b < w.heap.size → fp b → b < B) : Heap B w' L :=
  ⟨Nat.le_trans h.size c.size, fun i hi => (h.fine i hi).ch c (fun k hk hf => absurd ((h.fine i hi).low k hk) (by have := hfp k ((h.fine i hi).high k hk) hf; omega)), h.nodup⟩

/-- A new thing. -/
theorem Heap.push (h : Heap B w L) (c : Ch fp w w') (hfp : ∀ b, b < w.heap.size → fp b → b < B) (hf : it'.Fine B w') (hb : ∀ b ∈ it'.bl, w.heap.size ≤ b) : Heap B w' (L ++ [it']) := by
  refine ⟨Nat.le_trans h.size c.size, fun i hi => ?_, ?_⟩
  · rcases List.mem_append.1 hi with hi | hi
    · exact (h.keep c hfp).fine i hi
    · rw [List.mem_singleton.1 hi]; exact hf
  · simp only [List.flatMap_append, List.flatMap_cons, List.flatMap_nil, List.append_nil, List.nodup_append]
    refine ⟨h.nodup, hf.nodup, fun a ha b hb' hab => ?_⟩
    subst hab
    obtain ⟨i, hi, hai⟩ := flat_mem.1 ha
    have := (h.fine i hi).high a hai
    have := hb a hb'
    omega

theorem Heap.drewN (h : Heap B w L) (n : Nat) : Heap B (w.drewN n) L := h.keep ((Ch.refl (fun _ => False) w).drewN n) (fun _ _ h => h.elim)
theorem Heap.drew (h : Heap B w L) : Heap B w.drew L := h.keep ((Ch.refl (fun _ => False) w).drew) (fun _ _ h => h.elim)

/-- A thing is forgotten. -/
theorem Heap.drop {k : Nat} (h : Heap B w L) : Heap B w (L.set k It.nil) := by
  by_cases hk : k < L.length
  · exact h.lift (List.getElem?_eq_getElem hk) (Ch.refl (fun _ => False) w) (fun _ _ h => h.elim) It.fine_nil (by simp [It.nil])
  · rw [List.set_eq_of_length_le (by omega)]; exact h

/-- Cells of a block. -/
theorem Heap.blk {k g : Nat} {t : TypeId} {cs : Array Value} (h : Heap B w L) (hk : L[k]? = some (It.blk g t cs)) : Blk w g t cs := (h.get hk).hold
theorem Heap.row {k e size n : Nat} {v : Value} {xs : List Value} (h : Heap B w L) (hk : L[k]? = some (It.row B e size n v xs)) : w.ownsRow B e size v n xs := (h.get hk).hold

theorem It.blk_bl {g : Nat} {t : TypeId} {cs : Array Value} : (It.blk g t cs).bl = [g] := rfl
theorem Heap.ne {i j g g' : Nat} {t t' : TypeId} {cs cs' : Array Value} (h : Heap B w L) (hi : L[i]? = some (It.blk g t cs)) (hj : L[j]? = some (It.blk g' t' cs')) (hij : i ≠ j) : g ≠ g' := fun e =>
  h.apart hi hj hij g (by simp [It.blk]) (by simp [It.blk, e])

/-- A cell of a block is set. -/
theorem Heap.put {k g : Nat} {t : TypeId} {cs : Array Value} (h : Heap B w L) (hk : L[k]? = some (It.blk g t cs)) (i : Nat) (u : Value) : Heap B (w.setCell ⟨g, i, none⟩ u) (L.set k (It.blk g t (cs.setIfInBounds i u))) :=
  h.lift hk ((Ch.refl (fun b => b = g) w).setCell (fun _ => rfl) u) (fun b _ hb => .inr (by simp [It.blk, hb])) (It.fine_blk ((h.blk hk).put i u) ((h.get hk).low g (by simp [It.blk]))) (fun b hb => .inl hb)

/-- A block is made. -/
theorem Heap.alloc (h : Heap B w L) (cs : Array Value) (t : TypeId) : Heap B (w.alloc (.cells cs t)) (L ++ [It.blk w.heap.size t cs]) :=
  h.push ((Ch.refl (fun _ => False) w).alloc _) (fun _ _ h => h.elim) (It.fine_blk (Blk.new w t cs) h.size) (by simp [It.blk])
theorem Heap.alloc' (h : Heap B w L) (o : Obj) : Heap B (w.alloc o) L := h.keep ((Ch.refl (fun _ => False) w).alloc o) (fun _ _ h => h.elim)

/-- What a change of one thing of the list leaves below. -/
theorem Heap.below {k : Nat} (h : Heap B w L) (hk : L[k]? = some it) (c : Ch fp w w') (hfp : ∀ b, b < w.heap.size → fp b → b ∈ it.bl) : Below B w w' :=
  ⟨c.os, c.tape, c.output, c.size, fun b hb => c.block b (Nat.lt_of_lt_of_le hb h.size) (fun e => absurd ((h.get hk).low b (hfp b (Nat.lt_of_lt_of_le hb h.size) e)) (by omega))⟩
end
end Go.Proofs.Ytonjbofdmmnpdaa
