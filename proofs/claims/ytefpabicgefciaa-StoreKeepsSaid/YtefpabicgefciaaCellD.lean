/- The bank of cells: each method by one contract; a step; a run. -/
import Derived.Test.YtefpabicgefciaaCellC
import Derived.Test.YtefpabicgefciaaFrame
namespace Go.Proofs.Ytefpabicgefciaa
open Go.RowKit
set_option linter.unusedSimpArgs false
set_option linter.unusedVariables false

instance (s : BS) (t c : Int) : Decidable (s.fine t c) := by unfold BS.fine; infer_instance

def BS.err (s : BS) (t c : Int) : Int := chk s.vs.length t c
def BS.ldv (s : BS) (t c : Int) : Int := if s.fine t c then lk s.vs c.toNat else 0
def BS.addv (s : BS) (t c v : Int) : Int := if s.fine t c then w64 (lk s.vs c.toNat + v) else 0
def BS.casv (s : BS) (t c o : Int) : Bool := if s.fine t c then decide (lk s.vs c.toNat = o) else false
def BS.doLoad (s : BS) (t c : Int) : BS := if s.fine t c then s.load t c else s
def BS.doStore (s : BS) (t c v : Int) : BS := if s.fine t c then s.store t c v else s
def BS.doAdd (s : BS) (t c v : Int) : BS := if s.fine t c then s.add t c v else s
def BS.doSwap (s : BS) (t c v : Int) : BS := if s.fine t c then s.swap t c v else s
def BS.doCas (s : BS) (t c o v : Int) : BS := if s.fine t c then s.cas t c o v else s

theorem BStep.refl {B : Nat} {w : World} {p cb : Nat} {lv : Value} {s : BS} (h : Bank B w p cb lv s.vs s.lg) : BStep B w w p cb lv s := ⟨lv, h, Ch.refl _ _, .inl rfl⟩
theorem err_fine {s : BS} {t c : Int} (h : s.fine t c) : s.err t c = 0 := chk_fine h

section
variable (B p cb : Nat) (lv : Value) (s : BS) (t c : Int) (w : World) (h : Bank B w p cb lv s.vs s.lg) (hlen : s.lg.length < 1000000) (hB : B ≤ w.heap.size)
include h hlen hB
end

/-- A step of the laws. -/
structure StepD where
  d : Int
  t : Int
  c : Int
  o : Int
  v : Int
def StepD.cells (x : StepD) : List Value := [.int .u8 x.d, .int .i64 x.t, .int .i64 x.c, .int .u64 x.o, .int .u64 x.v]
def stepKs : List (Option IntKind) := [some .u8, some .i64, some .i64, some .u64, some .u64]
def StepD.ok (x : StepD) : Prop := (0 ≤ x.d ∧ x.d < 256) ∧ (0 ≤ x.o ∧ x.o < 18446744073709551616) ∧ (0 ≤ x.v ∧ x.v < 18446744073709551616) ∧ (-9223372036854775808 ≤ x.c ∧ x.c < 9223372036854775808)

theorem step_of_fits {vs : List Value} (h : Fits stepKs vs) : ∃ x : StepD, vs = x.cells ∧ x.ok := by
  obtain ⟨hl, hf⟩ := h
  obtain ⟨v0, e0, n0, rfl, w0⟩ := hf 0 _ rfl
  obtain ⟨v1, e1, n1, rfl, w1⟩ := hf 1 _ rfl
  obtain ⟨v2, e2, n2, rfl, w2⟩ := hf 2 _ rfl
  obtain ⟨v3, e3, n3, rfl, w3⟩ := hf 3 _ rfl
  obtain ⟨v4, e4, n4, rfl, w4⟩ := hf 4 _ rfl
  refine ⟨⟨n0, n1, n2, n3, n4⟩, ?_, wf_u8 w0, wf_u64 w3, wf_u64 w4, wf_i64 w2⟩
  match vs, hl with
  | [a, b, c, d, e], _ => simp at e0 e1 e2 e3 e4; simp [StepD.cells, e0, e1, e2, e3, e4]

/-- The steps that came in. -/
def InSteps (w : World) (a : Option Addr) (n : Nat) (xs : List StepD) : Prop :=
  xs.length = n ∧ (∀ x ∈ xs, x.ok) ∧ (0 < n → ∃ b off, a = some ⟨b, off, none⟩ ∧ b < w.heap.size ∧ ∀ (i j : Nat) x v, xs[i]? = some x → x.cells[j]? = some v → w.cell? ⟨b, off + (i * 5 + j), none⟩ = some v)

theorem in_steps {w : World} {a : Option Addr} {n : Nat} {ls : List (List Value)} (h : InRows stepKs w a n ls) : ∃ xs, InSteps w a n xs := by
  obtain ⟨hl, hf, hc⟩ := h
  obtain ⟨xs, hxl, hx⟩ := exists_list (R := fun i (x : StepD) => ls[i]? = some x.cells ∧ x.ok) n (fun i hi => by
    have h0 : ls[i]? = some (ls[i]'(by omega)) := List.getElem?_eq_getElem (by omega)
    obtain ⟨x, hx, ho⟩ := step_of_fits (hf _ (List.getElem_mem (by omega : i < ls.length)))
    exact ⟨x, by rw [h0, hx], ho⟩)
  refine ⟨xs, hxl, fun x hm => ?_, fun h0 => ?_⟩
  · obtain ⟨i, hi⟩ := List.getElem?_of_mem hm
    exact (hx i x hi).2
  · obtain ⟨b, off, rfl, hb, hcell⟩ := hc h0
    exact ⟨b, off, rfl, hb, fun i j x v hi hj => hcell i j _ v (hx i x hi).1 hj⟩

def BS.step (s : BS) (x : StepD) : BS :=
  if x.d = 0 then s.doLoad x.t x.c else if x.d = 1 then s.doStore x.t x.c x.v else if x.d = 2 then s.doAdd x.t x.c x.v else if x.d = 3 then s.doSwap x.t x.c x.v else s.doCas x.t x.c x.o x.v
def runS (n : Nat) (xs : List StepD) : BS := xs.foldl BS.step ⟨List.replicate n 0, []⟩
theorem runS_snoc (n : Nat) (xs : List StepD) (x : StepD) : runS n (xs ++ [x]) = (runS n xs).step x := by simp [runS]

theorem step_len (s : BS) (x : StepD) : (s.step x).vs.length = s.vs.length ∧ (s.step x).lg.length ≤ s.lg.length + 1 := by
  unfold BS.step BS.doLoad BS.doStore BS.doAdd BS.doSwap BS.doCas BS.load BS.store BS.add BS.swap BS.cas BS.setlog BS.log
  repeat' split
  all_goals simp
theorem runS_len (n : Nat) : ∀ xs : List StepD, (runS n xs).vs.length = n ∧ (runS n xs).lg.length ≤ xs.length := by
  intro xs
  suffices h : ∀ (xs : List StepD) (s : BS), (xs.foldl BS.step s).vs.length = s.vs.length ∧ (xs.foldl BS.step s).lg.length ≤ s.lg.length + xs.length by
    have := h xs ⟨List.replicate n 0, []⟩
    simpa [runS] using this
  intro xs
  induction xs with
  | nil => intro s; simp
  | cons x xs ih =>
    intro s
    have h1 := ih (s.step x)
    have h2 := step_len s x
    simp only [List.foldl_cons, List.length_cons]
    omega
end Go.Proofs.Ytefpabicgefciaa
