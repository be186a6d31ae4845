/- The bank of cells: its methods. -/
import Derived.Test.YtefpabicgefciaaCellA
namespace Go.Proofs.Ytefpabicgefciaa
open Go.RowKit
set_option linter.unusedSimpArgs false
set_option linter.unusedVariables false

structure BS where
  vs : List Int
  lg : List Acc

def w64 (x : Int) : Int := x % 18446744073709551616
theorem w64_wrap (x : Int) : IntKind.u64.wrap x = w64 x := by simp [IntKind.wrap, w64, IntKind.signed, IntKind.bits]
theorem w64_bd (x : Int) : 0 ≤ w64 x ∧ w64 x < 18446744073709551616 := by unfold w64; omega

def BS.log (s : BS) (x : Acc) : BS := ⟨s.vs, s.lg ++ [x]⟩
def BS.setlog (s : BS) (c : Nat) (v : Int) (x : Acc) : BS := ⟨s.vs.set c v, s.lg ++ [x]⟩
def BS.fine (s : BS) (t c : Int) : Prop := 0 ≤ t ∧ t < 16 ∧ 0 ≤ c ∧ c < s.vs.length

theorem chk_fine {s : BS} {t c : Int} (h : s.fine t c) : chk s.vs.length t c = 0 := by
  obtain ⟨h1, h2, h3, h4⟩ := h
  unfold chk
  rw [if_neg (by omega), if_neg (by omega)]
theorem chk_not {s : BS} {t c : Int} (h : ¬ s.fine t c) : chk s.vs.length t c ≠ 0 := by
  unfold BS.fine at h
  unfold chk
  split
  · decide
  · split
    · decide
    · omega

/-- What a method does to the bank: it reads as s; p, its cells and its log alone have changed. -/
def FP (p cb : Nat) (lv : Value) : Nat → Prop := fun b => b = p ∨ b = cb ∨ lv.ownBlock = some b
def BStep (B : Nat) (w w' : World) (p cb : Nat) (lv : Value) (s : BS) : Prop := ∃ lv', Bank B w' p cb lv' s.vs s.lg ∧ Ch (FP p cb lv) w w' ∧ Fresh w lv lv'

theorem lk_bd {vs : List Int} (h : ∀ x ∈ vs, 0 ≤ x ∧ x < 18446744073709551616) (c : Nat) : 0 ≤ lk vs c ∧ lk vs c < 18446744073709551616 := by
  unfold lk
  by_cases hc : c < vs.length
  · rw [List.getD_eq_getElem?_getD, List.getElem?_eq_getElem hc]
    exact h _ (List.getElem_mem hc)
  · rw [List.getD_eq_getElem?_getD, List.getElem?_eq_none (by omega)]
    exact ⟨by decide, by decide⟩
theorem lk_set {vs : List Int} {c : Nat} (v : Int) (h : c < vs.length) : lk (vs.set c v) c = v := by simp [lk, h]
theorem set_bd {vs : List Int} (h : ∀ x ∈ vs, 0 ≤ x ∧ x < 18446744073709551616) (c : Nat) {v : Int} (hv : 0 ≤ v ∧ v < 18446744073709551616) : ∀ x ∈ vs.set c v, 0 ≤ x ∧ x < 18446744073709551616 := by
  intro x hx
  rcases List.mem_or_eq_of_mem_set hx with h1 | h1
  · exact h x h1
  · rw [h1]; exact hv

/-- A cell set. -/
theorem Bank.set {B : Nat} {w : World} {p cb : Nat} {lv : Value} {vs : List Int} {lg : List Acc} (h : Bank B w p cb lv vs lg) (c : Nat) {v : Int} (hv : 0 ≤ v ∧ v < 18446744073709551616) :
    Bank B (w.setCell ⟨cb, c, none⟩ (.int .u64 v)) p cb lv (vs.set c v) lg := by
  refine ⟨?_, ?_, ?_, set_bd h.hv c hv, by rw [List.length_set]; exact h.hn, h.bp, h.bc⟩
  · rw [List.length_set]; exact h.hp.far (h.hp.ne h.hc (by decide)) _
  · rw [← u64s_set]; exact h.hc.put c _
  · exact ((Ch.refl (fun b => b = cb) _).set (fun _ => rfl) _).own h.hl (fun k hk e => h.hc.own h.hl (by decide) (by rw [hk, e]))

theorem fresh_set {w : World} {p : Addr} {u v v' : Value} (h : Fresh (w.setCell p u) v v') : Fresh w v v' := h.imp id (fun h b hb => by have := h b hb; simpa [World.setCell] using this)

def BS.load (s : BS) (t c : Int) : BS := s.log ⟨t, c, 1, lk s.vs c.toNat, lk s.vs c.toNat, false⟩

def BS.store (s : BS) (t c v : Int) : BS := s.setlog c.toNat v ⟨t, c, 2, lk s.vs c.toNat, v, false⟩
def BS.add (s : BS) (t c v : Int) : BS := s.setlog c.toNat (w64 (lk s.vs c.toNat + v)) ⟨t, c, 3, lk s.vs c.toNat, w64 (lk s.vs c.toNat + v), false⟩
def BS.swap (s : BS) (t c v : Int) : BS := s.setlog c.toNat v ⟨t, c, 4, lk s.vs c.toNat, v, false⟩
def BS.cas (s : BS) (t c o v : Int) : BS := if lk s.vs c.toNat = o then s.setlog c.toNat v ⟨t, c, 5, lk s.vs c.toNat, v, true⟩ else s.log ⟨t, c, 5, lk s.vs c.toNat, lk s.vs c.toNat, false⟩
theorem w64_sub {x d : Int} (h : 0 ≤ x ∧ x < 18446744073709551616) : w64 (w64 (x + d) - d) = x := by unfold w64; omega

theorem BStep.below {B : Nat} {w w' : World} {p cb : Nat} {lv : Value} {vs : List Int} {lg : List Acc} {s' : BS} (hs : BStep B w w' p cb lv s') (h : Bank B w p cb lv vs lg) (hB : B ≤ w.heap.size) : Below B w w' := by
  obtain ⟨_, _, hc, _⟩ := hs
  refine hc.below hB (fun j hj => ?_)
  rcases hj with rfl | rfl | hj
  · exact h.bp
  · exact h.bc
  · exact (h.hl.lt j hj).1

end Go.Proofs.Ytefpabicgefciaa
