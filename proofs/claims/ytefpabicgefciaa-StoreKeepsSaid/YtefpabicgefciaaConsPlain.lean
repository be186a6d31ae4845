/- The plain law of CellConsistent: each access sees what the latest one to its cell left. -/
import Derived.Test.YtefpabicgefciaaCellE
namespace Go.Proofs.Ytefpabicgefciaa
open Go.RowKit
set_option linter.unusedSimpArgs false
set_option linter.unusedVariables false

theorem logCells_get (lg : List Acc) : ∀ (k : Nat) (x : Acc), lg[k]? = some x → ∀ (j : Nat) (v : Value), x.cells[j]? = some v → (logCells lg)[k * 6 + j]? = some v := by
  induction lg with
  | nil => intro k x h; simp at h
  | cons y l ih =>
    intro k x h j v hj
    cases k with
    | zero =>
      simp at h; subst h
      have hlt := (List.getElem?_eq_some_iff.1 hj).1
      simp only [logCells, List.flatMap_cons, Nat.zero_mul, Nat.zero_add]
      rw [List.getElem?_append_left hlt]; exact hj
    | succ k =>
      have h' : l[k]? = some x := by simpa using h
      have := ih k x h' j v hj
      simp only [logCells, List.flatMap_cons] at this ⊢
      have e : (k + 1) * 6 + j = y.cells.length + (k * 6 + j) := by simp [Acc.cells]; omega
      rw [e, List.getElem?_append_right (by omega), Nat.add_sub_cancel_left]
      exact this

/-- What the latest access to cell c left. -/
def nowL (l : List Acc) (c : Int) : Int := l.foldl (fun v x => if x.c = c then x.n else v) 0
theorem nowL_snoc (l : List Acc) (x : Acc) (c : Int) : nowL (l ++ [x]) c = if x.c = c then x.n else nowL l c := by simp [nowL]

structure Cons (s : BS) : Prop where
  see : ∀ (k : Nat) (x : Acc), s.lg[k]? = some x → x.o = nowL (s.lg.take k) x.c ∧ (x.k = 1 → x.n = x.o)
  now : ∀ c : Nat, c < s.vs.length → nowL s.lg c = lk s.vs c

theorem cons_add {s : BS} (h : Cons s) (x : Acc) (c : Nat) (v : Int) (hc : c < s.vs.length) (hx : x.c = c) (ho : x.o = lk s.vs c) (hk : x.k = 1 → x.n = x.o) (hn : x.n = v) : Cons ⟨s.vs.set c v, s.lg ++ [x]⟩ := by
  refine ⟨fun k y hy => ?_, fun d hd => ?_⟩
  · by_cases hk' : k < s.lg.length
    · rw [List.getElem?_append_left hk'] at hy
      rw [List.take_append_of_le_length (by omega)]
      exact h.see k y hy
    · have hlen := (List.getElem?_eq_some_iff.1 hy).1
      simp at hlen
      have : k = s.lg.length := by omega
      subst this
      simp at hy
      subst hy
      refine ⟨?_, hk⟩
      simp only [List.take_left]
      rw [hx, h.now c hc, ho]
  · simp only [List.length_set] at hd
    rw [nowL_snoc, hx]
    by_cases hcd : c = d
    · subst hcd
      simp [lk, hd, hn]
    · have : ¬ (c : Int) = (d : Int) := by omega
      rw [if_neg this, h.now d hd]
      simp [lk, hcd]

theorem set_self (vs : List Int) (c : Nat) (h : c < vs.length) : vs.set c (lk vs c) = vs := by
  apply List.ext_getElem?
  intro i
  rw [List.getElem?_set]
  by_cases hi : c = i
  · subst hi; simp [lk, h]
  · simp [hi]

theorem cons_step {s : BS} (h : Cons s) (x : StepD) : Cons (s.step x) := by
  have key : ∀ (t c : Int) (hf : s.fine t c) (y : Acc) (v : Int), y.c = c → y.o = lk s.vs c.toNat → (y.k = 1 → y.n = y.o) → y.n = v → Cons (s.setlog c.toNat v y) := by
    intro t c hf y v h1 h2 h3 h4
    obtain ⟨_, _, h5, h6⟩ := hf
    exact cons_add h y c.toNat v (by omega) (by omega) h2 h3 h4
  have keyl : ∀ (t c : Int) (hf : s.fine t c) (y : Acc), y.c = c → y.o = lk s.vs c.toNat → (y.k = 1 → y.n = y.o) → y.n = lk s.vs c.toNat → Cons (s.log y) := by
    intro t c hf y h1 h2 h3 h4
    have := key t c hf y (lk s.vs c.toNat) h1 h2 h3 h4
    obtain ⟨_, _, h5, h6⟩ := hf
    rw [BS.setlog, set_self _ _ (by omega)] at this
    exact this
  have kcas : ∀ (t c o v : Int), s.fine t c → Cons (s.cas t c o v) := by
    intro t c o v hf
    unfold BS.cas
    split
    · exact key _ _ hf _ _ rfl rfl (fun e => by simp at e) rfl
    · exact keyl _ _ hf _ rfl rfl (fun e => by simp at e) rfl
  unfold BS.step BS.doLoad BS.doStore BS.doAdd BS.doSwap BS.doCas
  repeat' split
  all_goals first
    | exact h
    | (rename_i hf; exact keyl _ _ hf _ rfl rfl (fun _ => rfl) rfl)
    | (rename_i hf; exact key _ _ hf _ _ rfl rfl (fun e => by simp at e) rfl)
    | (rename_i hf; exact kcas _ _ _ _ hf)

theorem cons_run (n : Nat) (xs : List StepD) : Cons (runS n xs) := by
  suffices h : ∀ (xs : List StepD) (s : BS), Cons s → Cons (xs.foldl BS.step s) by
    refine h xs _ ⟨fun k x hx => by simp at hx, fun c hc => ?_⟩
    simp only [List.length_replicate] at hc
    simp [nowL, lk, hc]
  intro xs
  induction xs with
  | nil => intro s hs; exact hs
  | cons x xs ih => intro s hs; exact ih _ (cons_step hs x)
end Go.Proofs.Ytefpabicgefciaa
