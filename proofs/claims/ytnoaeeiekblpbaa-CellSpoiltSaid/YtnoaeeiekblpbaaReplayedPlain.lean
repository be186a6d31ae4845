/- Replaying a bank's own log gives its values: the plain law. -/
import Derived.Test.YtnoaeeiekblpbaaReplay
namespace Go.Proofs.Ytnoaeeiekblpbaa
open Go.RowKit
set_option linter.unusedVariables false

theorem repF_append (l : List Acc) (x : Acc) : ∀ (vs : List Int) (k : Nat), repF vs k (l ++ [x]) = match repF vs k l with
    | (some vs', k') => if okAt vs' x = true then (some (vs'.set x.c.toNat x.n), k' + 1) else (none, k')
    | (none, k') => (none, k') := by
  induction l with
  | nil => intro vs k; rfl
  | cons y l ih =>
    intro vs k
    show (if okAt vs y = true then repF (vs.set y.c.toNat y.n) (k + 1) (l ++ [x]) else (none, k)) = match (if okAt vs y = true then repF (vs.set y.c.toNat y.n) (k + 1) l else (none, k)) with
      | (some vs', k') => _
      | (none, k') => _
    by_cases h : okAt vs y = true
    · rw [if_pos h, if_pos h, ih]
    · rw [if_neg h, if_neg h]

def Replays (n : Nat) (s : BS) : Prop := repF (List.replicate n 0) 0 s.lg = (some s.vs, s.lg.length)

theorem replays_add {n : Nat} {s : BS} (h : Replays n s) (x : Acc) (v : Int) (hok : okAt s.vs x = true) (hn : x.n = v) : Replays n ⟨s.vs.set x.c.toNat v, s.lg ++ [x]⟩ := by
  unfold Replays at *
  rw [repF_append, h]
  simp only [hok, if_true, List.length_append, List.length_singleton, hn]

theorem replays_step {n : Nat} {s : BS} (h : Replays n s) (x : StepD) : Replays n (s.step x) := by
  have ok : ∀ (t c : Int) (hf : s.fine t c) (y : Acc), y.t = t → y.c = c → possB y (lk s.vs c.toNat) = true → okAt s.vs y = true := by
    intro t c hf y h1 h2 h3
    obtain ⟨a1, a2, a3, a4⟩ := hf
    subst h1 h2
    simp [okAt, h3, a1, a2, a3, a4]
  have key : ∀ (t c : Int) (hf : s.fine t c) (y : Acc) (v : Int), y.t = t → y.c = c → possB y (lk s.vs c.toNat) = true → y.n = v → Replays n (s.setlog c.toNat v y) := by
    intro t c hf y v h1 h2 h3 h4
    have := replays_add h y v (ok t c hf y h1 h2 h3) h4
    rw [h2] at this
    exact this
  have keyl : ∀ (t c : Int) (hf : s.fine t c) (y : Acc), y.t = t → y.c = c → possB y (lk s.vs c.toNat) = true → y.n = lk s.vs c.toNat → Replays n (s.log y) := by
    intro t c hf y h1 h2 h3 h4
    have := key t c hf y (lk s.vs c.toNat) h1 h2 h3 h4
    obtain ⟨_, _, h5, h6⟩ := hf
    rw [BS.setlog, set_self _ _ (by omega)] at this
    exact this
  have kcas : ∀ (t c o v : Int), s.fine t c → Replays n (s.cas t c o v) := by
    intro t c o v hf
    unfold BS.cas
    split
    · exact key _ _ hf _ _ rfl rfl (by simp [possB]) rfl
    · exact keyl _ _ hf _ rfl rfl (by simp [possB]) rfl
  unfold BS.step BS.doLoad BS.doStore BS.doAdd BS.doSwap BS.doCas
  repeat' split
  all_goals first
    | exact h
    | (rename_i hf; exact keyl _ _ hf _ rfl rfl (by simp [possB]) rfl)
    | (rename_i hf; exact key _ _ hf _ _ rfl rfl (by simp [possB]) rfl)
    | (rename_i hf; exact kcas _ _ _ _ hf)

theorem replays_run (n : Nat) (xs : List StepD) : Replays n (runS n xs) := by
  suffices h : ∀ (xs : List StepD) (s : BS), Replays n s → Replays n (xs.foldl BS.step s) from h xs _ rfl
  intro xs
  induction xs with
  | nil => intro s hs; exact hs
  | cons x xs ih => intro s hs; exact ih _ (replays_step hs x)
end Go.Proofs.Ytnoaeeiekblpbaa
