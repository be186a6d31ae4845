/- Texts XDeltaB, XDl, XKeepB for XChE, by trim.py. -/
import Derived.Test.YtefpabicgefciaaGreatDb02
import Derived.Test.YtefpabicgefciaaGreatDb01
import Derived.OwnWalk
namespace Go.Proofs.YtefpabicgefciaaGreat
open Go.RowKit
set_option linter.unusedVariables false
set_option linter.unusedSimpArgs false
set_option linter.unusedSectionVars false
namespace Dl
theorem atoms_app : ∀ (a b : List Pc) (i : Int), atoms i (a ++ b) = atoms i a ++ atoms (i + inl a) b
  | [], b, i => by simp [atoms, inl]
  | x :: a, b, i => by
    simp only [List.cons_append, atoms, atoms_app a b, inl, inn, List.append_assoc]
    rw [Int.add_assoc]
theorem ups_bd : ∀ (n : Nat) (i x : Int), x ∈ ups i n → i ≤ x ∧ x < i + n
  | 0, _, _, h => by simp [ups] at h
  | n + 1, i, x, h => by
    simp only [ups, List.mem_cons] at h
    rcases h with rfl | h
    · push_cast; omega
    · have := ups_bd n (i + 1) x h
      push_cast
      omega
theorem atoms_bd : ∀ (d : List Pc) (i x : Int), OkL d → x ∈ atoms i d → x < 0 ∨ (i ≤ x ∧ x < i + inl d)
  | [], _, _, _, h => by simp [atoms] at h
  | y :: d, i, x, hd, h => by
    have h1 := hd.cons.1.inn0
    have h2 := inl_nn hd.cons.2
    simp only [inl]
    unfold inn at *
    simp only [atoms, atom1, List.mem_append, List.mem_map] at h
    rcases h with (⟨b, _, rfl⟩ | h) | h
    · exact .inl (neg_lt b)
    · split at h
      · have := ups_bd _ _ _ h
        exact .inr ⟨by omega, by omega⟩
      · simp at h
    · rcases atoms_bd d _ x hd.cons.2 h with h | h
      · exact .inl h
      · exact .inr ⟨by omega, by omega⟩
theorem insP_ok {t : List UInt8} (h : t ≠ []) : Ok (insP t) := .inr ⟨rfl, rfl, by
  show (mkS t).size ≠ 0
  rw [← size_list]
  simpa [mkS] using h⟩
theorem delP_ok {n : Int} (h : 0 < n) : Ok (delP n) := .inl ⟨.inr rfl, by show 1 ≤ n; omega, rfl⟩
theorem retP_ok {n : Int} (h : 0 < n) : Ok (retP n) := .inl ⟨.inl rfl, by show 1 ≤ n; omega, rfl⟩
theorem gap_ok (t : List UInt8) (g : Int) : OkL (gap t g) := by
  unfold gap
  refine OkL.app ?_ ?_
  · split
    · exact fun _ h => by simp at h
    · rename_i h; exact OkL.mk (insP_ok h) (fun _ h => by simp at h)
  · split
    · rename_i h; exact OkL.mk (delP_ok h) (fun _ h => by simp at h)
    · exact fun _ h => by simp at h
theorem inl_gap (t : List UInt8) (g : Int) (h : 0 ≤ g) : inl (gap t g) = g := by
  unfold gap
  rw [inl_app]
  by_cases h1 : t = [] <;> by_cases h2 : 0 < g <;> simp [h1, h2, inl, inn, insP, delP] <;> omega
theorem atoms_gap (t : List UInt8) (g : Int) (i : Int) : atoms i (gap t g) = t.map neg := by
  unfold gap
  by_cases h1 : t = [] <;> by_cases h2 : 0 < g <;> simp [h1, h2, atoms, atom1, insP, delP, bytes, mkS, nos]
theorem keep_ok {o : List Pc} (h : OkL o) {n : Int} (hn : 0 < n) : OkL (keep o n) ∧ inl (keep o n) = inl o + n ∧ ∀ i, atoms i (keep o n) = atoms i o ++ ups (i + inl o) n.toNat := by
  have base : OkL (o ++ [retP n]) ∧ inl (o ++ [retP n]) = inl o + n ∧ ∀ i, atoms i (o ++ [retP n]) = atoms i o ++ ups (i + inl o) n.toNat :=
    ⟨h.app (OkL.mk (retP_ok hn) (fun _ h => by simp at h)), by rw [inl_app]; simp [inl, inn, retP], fun i => by rw [atoms_app]; simp [atoms, atom1, retP, bytes, nos]⟩
  unfold keep
  cases e : o.getLast? with
  | none => exact base
  | some p =>
    by_cases hk : p.k = 1
    · simp only [hk, if_true]
      have hne : o ≠ [] := by intro e'; rw [e'] at e; simp at e
      have ho : o = o.dropLast ++ [p] := by
        have t := List.dropLast_concat_getLast hne
        rw [List.getLast?_eq_some_getLast hne] at e
        rw [← Option.some.inj e]
        exact t.symm
      obtain ⟨q, hq⟩ : ∃ q, q = o.dropLast := ⟨_, rfl⟩
      rw [← hq] at ho ⊢
      subst ho
      have hp : Ok p := h p (by simp)
      have hs : p.s.size = 0 := by rcases hp with ⟨_, _, h⟩ | ⟨h, _⟩ <;> omega
      have hn0 := hp.inn0
      unfold inn at hn0
      refine ⟨OkL.app (fun y hy => h y (by simp [hy])) (OkL.mk (.inl ⟨.inl rfl, ?_, hs⟩) (fun _ h => by simp at h)), ?_, fun i => ?_⟩
      · rcases hp with ⟨_, h, _⟩ | ⟨h, _⟩
        · show 1 ≤ p.n + n; omega
        · omega
      · rw [inl_app, inl_app]
        simp only [inl, inn]
        omega
      · rw [atoms_app, atoms_app, inl_app]
        have e1 : bytes p = [] := bytes_nil hs
        have e2 : bytes (⟨1, p.n + n, p.s⟩ : Pc) = [] := bytes_nil hs
        simp only [atoms, atom1, e1, e2, hk, if_true, List.map_nil, List.nil_append, List.append_nil, List.append_assoc, inl, inn]
        rw [show (p.n + n).toNat = p.n.toNat + n.toNat by omega, ups_add, show i + inl q + (p.n.toNat : Int) = i + (inl q + (p.n + 0)) by omega]
    · simp only [hk, if_false]
      exact base
structure FOk (st : Fs) : Prop where
  o : OkL st.out
  g : 0 ≤ st.g
theorem fend_ok {st : Fs} (h : FOk st) : OkL (fend st) := h.o.app (gap_ok _ _)
theorem step_ok {st : Fs} (h : FOk st) {x : Pc} (hx : Ok x) : FOk (fstep st x) ∧ inl (fend (fstep st x)) = inl (fend st) + inn x ∧ atoms 0 (fend (fstep st x)) = atoms 0 (fend st) ++ atom1 (inl (fend st)) x := by
  have hi : inl (fend st) = inl st.out + st.g := by rw [fend, inl_app, inl_gap _ _ h.g]
  have hg := h.g
  have hm : atoms 0 (fend st) = atoms 0 st.out ++ st.t.map neg := by rw [fend, atoms_app, atoms_gap]
  rcases hx with ⟨h1 | h3, h4, h5⟩ | ⟨h2, h4, h5⟩
  · have e : fstep st x = fret st x.n := by simp [fstep, h1]
    obtain ⟨k1, k2, k3⟩ := keep_ok (fend_ok h) (show 0 < x.n by omega)
    have e2 : fend (fret st x.n) = keep (fend st) x.n := by simp [fend, fret, gap_nil]
    rw [e, e2, k2, k3]
    refine ⟨⟨k1, Int.le_refl 0⟩, rfl, ?_⟩
    simp [atom1, bytes_nil h5, h1]
  · have e : fstep st x = fdel st x.n := by simp [fstep, h3]
    rw [e]
    refine ⟨⟨h.o, by show 0 ≤ st.g + x.n; omega⟩, ?_, ?_⟩
    · rw [hi, fend, inl_app, inl_gap _ _ (by show 0 ≤ st.g + x.n; omega)]
      simp only [fdel, inn]
      omega
    · rw [fend, atoms_app, atoms_gap, hm]
      simp [atom1, bytes_nil h5, h3, fdel]
  · have e : fstep st x = fins st (bytes x) := by simp [fstep, h2]
    rw [e]
    refine ⟨⟨h.o, h.g⟩, ?_, ?_⟩
    · rw [hi, fend, inl_app, inl_gap _ _ (show 0 ≤ (fins st (bytes x)).g from h.g)]
      simp only [fins, inn]
      omega
    · rw [fend, atoms_app, atoms_gap, hm]
      simp [atom1, h2, fins]
theorem run_ok : ∀ (d : List Pc) (st : Fs), FOk st → OkL d → FOk (frun d st) ∧ inl (fend (frun d st)) = inl (fend st) + inl d ∧ atoms 0 (fend (frun d st)) = atoms 0 (fend st) ++ atoms (inl (fend st)) d
  | [], st, h, _ => ⟨h, by simp [frun, inl], by simp [frun, atoms]⟩
  | x :: d, st, h, hd => by
    obtain ⟨h1, h2, h3⟩ := step_ok h hd.cons.1
    obtain ⟨k1, k2, k3⟩ := run_ok d (fstep st x) h1 hd.cons.2
    refine ⟨k1, ?_, ?_⟩
    · rw [frun_cons, k2, h2]; simp only [inl]; omega
    · rw [frun_cons, k3, h3, h2, List.append_assoc]; rfl
theorem form_ok {d : List Pc} (h : OkL d) : OkL (form d) ∧ inl (form d) = inl d ∧ atoms 0 (form d) = atoms 0 d := by
  have hz : FOk fzero := ⟨fun _ h => by simp [fzero] at h, Int.le_refl 0⟩
  obtain ⟨h1, h2, h3⟩ := run_ok d fzero hz h
  have e1 : inl (fend fzero) = 0 := by simp [fend, fzero, gap_nil, inl]
  have e2 : atoms 0 (fend fzero) = [] := by simp [fend, fzero, gap_nil, atoms]
  rw [e1] at h2 h3
  rw [e2] at h3
  exact ⟨fend_ok h1, by unfold form; omega, h3⟩
open Classical in
/-- The error of the pieces behind some. -/
noncomputable def chk : List Pc → Int → Int → Int
  | [], _, _ => 0
  | x :: d, i, o => if ¬ Ok x then 2 else if 1048576 - i < inn x ∨ 1048576 - o < oun x then 5 else chk d (i + inn x) (o + oun x)
noncomputable def chkL (d : List Pc) : Int := if 4096 < d.length then 5 else chk d 0 0
theorem chk_zero : ∀ (d : List Pc) (i o : Int), i ≤ 1048576 → o ≤ 1048576 → (chk d i o = 0 ↔ OkL d ∧ i + inl d ≤ 1048576 ∧ o + oul d ≤ 1048576)
  | [], i, o, h1, h2 => by simp [chk, inl, oul, OkL, h1, h2]
  | x :: d, i, o, h1, h2 => by
    unfold chk
    by_cases hx : Ok x
    · rw [if_neg (by simpa using hx)]
      by_cases hb : 1048576 - i < inn x ∨ 1048576 - o < oun x
      · rw [if_pos hb]
        refine ⟨fun h => absurd h (by decide), fun ⟨h, h3, h4⟩ => ?_⟩
        have := inl_nn h.cons.2
        have := oul_nn h.cons.2
        simp only [inl, oul] at h3 h4
        omega
      · rw [if_neg hb, chk_zero d (i + inn x) (o + oun x) (by omega) (by omega)]
        simp only [inl, oul]
        refine ⟨fun ⟨a, b, c⟩ => ⟨OkL.mk hx a, by omega, by omega⟩, fun ⟨a, b, c⟩ => ⟨a.cons.2, by omega, by omega⟩⟩
    · rw [if_pos (by simpa using hx)]
      exact ⟨fun h => absurd h (by decide), fun ⟨h, _⟩ => absurd h.cons.1 hx⟩
theorem chkL_zero {d : List Pc} : chkL d = 0 ↔ d.length ≤ 4096 ∧ OkL d ∧ inl d ≤ 1048576 ∧ oul d ≤ 1048576 := by
  unfold chkL
  by_cases h : 4096 < d.length
  · rw [if_pos h]; exact ⟨fun h => absurd h (by decide), fun ⟨a, _⟩ => by omega⟩
  · rw [if_neg h, chk_zero d 0 0 (by decide) (by decide), Int.zero_add, Int.zero_add]
    exact ⟨fun ⟨a, b, c⟩ => ⟨by omega, a, b, c⟩, fun ⟨_, a, b, c⟩ => ⟨a, b, c⟩⟩
theorem mem_le {d : List Pc} (h : OkL d) {x : Pc} (hx : x ∈ d) : inn x ≤ inl d ∧ oun x ≤ oul d := by
  obtain ⟨a, b, rfl⟩ := List.append_of_mem hx
  have ha : OkL a := fun y hy => h y (by simp [hy])
  have hb : OkL b := fun y hy => h y (by simp [hy])
  rw [inl_app, oul_app]
  simp only [inl, oul]
  have := inl_nn ha; have := inl_nn hb; have := oul_nn ha; have := oul_nn hb
  omega
/-- Two deltas follow one another: their composition. -/
noncomputable def cmp (a b : List Pc) : List Pc × Int :=
  if chkL a ≠ 0 then ([], chkL a) else if chkL b ≠ 0 then ([], chkL b) else if oul a ≠ inl b then ([], 21)
  else if 4096 < (ofA (inl a) ((atoms 0 b).map (see (atoms 0 a)))).length then ([], 5) else (ofA (inl a) ((atoms 0 b).map (see (atoms 0 a))), 0)
theorem oul_atoms {d : List Pc} (h : OkL d) {l : List Int} {i : Int} (e : atoms i d = l) : oul d = l.length := by rw [← e, atoms_len i h]
/-- What the composition of two checked deltas is. -/
theorem cmp_prog {a b : List Pc} (ha : chkL a = 0) (hb : chkL b = 0) (h : oul a = inl b) : OkL (comp a b) ∧ (∀ x ∈ comp a b, chkL [x] = 0) ∧ (4096 < (form (comp a b)).length → cmp a b = ([], 5)) ∧ (¬ 4096 < (form (comp a b)).length → cmp a b = (form (comp a b), 0)) ∧ (chkL (form (comp a b)) = if 4096 < (form (comp a b)).length then 5 else 0) := by
  obtain ⟨a1, a2, a3, a4⟩ := chkL_zero.1 ha
  obtain ⟨b1, b2, b3, b4⟩ := chkL_zero.1 hb
  obtain ⟨o1, o2, o3⟩ := comp_spec _ a b 0 (Nat.le_refl _) a2 b2 h (Int.le_refl 0)
  have e : form (comp a b) = ofA (inl a) ((atoms 0 b).map (see (atoms 0 a))) := by rw [form_eq o1, o3, o2]
  have ou : oul (comp a b) = oul b := by rw [oul_atoms o1 o2, List.length_map, atoms_len 0 b2]
  obtain ⟨f1, f2, f3⟩ := form_ok o1
  have fo : oul (form (comp a b)) = oul b := by rw [oul_atoms f1 f3, ← ou, atoms_len 0 o1]
  refine ⟨o1, fun x hx => ?_, fun hl => ?_, fun hl => ?_, ?_⟩
  · have := mem_le o1 hx
    refine chkL_zero.2 ⟨by simp, OkL.mk (o1 x hx) (fun _ h => by simp at h), ?_, ?_⟩
    · simp only [inl]; omega
    · simp only [oul]; omega
  · unfold cmp
    rw [if_neg (by simpa using ha), if_neg (by simpa using hb), if_neg (by simpa using h), ← e, if_pos hl]
  · unfold cmp
    rw [if_neg (by simpa using ha), if_neg (by simpa using hb), if_neg (by simpa using h), ← e, if_neg hl]
  · by_cases hl : 4096 < (form (comp a b)).length
    · rw [if_pos hl]; unfold chkL; rw [if_pos hl]
    · rw [if_neg hl]; exact chkL_zero.2 ⟨by omega, f1, by omega, by omega⟩
def idn (n : Int) : List Pc := if n = 0 then [] else [retP n]
noncomputable def idE (n : Int) : List Pc × Int := if n < 0 then ([], 2) else if 1048576 < n then ([], 5) else (idn n, 0)
/-- The composition of deltas, or the first error. -/
noncomputable def allGo : List (List Pc) → List Pc × Int → List Pc × Int
  | [], r => r
  | d :: l, r => if r.2 ≠ 0 then r else allGo l (cmp r.1 d)
noncomputable def allE (n : Int) (l : List (List Pc)) : List Pc × Int := if (allGo l (idE n)).2 ≠ 0 then ([], (allGo l (idE n)).2) else allGo l (idE n)
/-- What deltas that follow one another come to, byte by byte. -/
def thru (A : List Int) : List (List Pc) → List Int
  | [] => A
  | d :: l => thru ((atoms 0 d).map (see A)) l
/-- Small deltas that follow one another, from a text of n bytes. -/
def Chain : Int → List (List Pc) → Prop
  | _, [] => True
  | n, d :: l => OkL d ∧ inl d = n ∧ d.length ≤ 4096 ∧ inl d ≤ 1000 ∧ oul d ≤ 1000 ∧ Chain (oul d) l
def endL : Int → List (List Pc) → Int
  | n, [] => n
  | _, d :: l => endL (oul d) l
theorem see_see (A Y : List Int) {x : Int} (h : x < 0 ∨ x < Y.length) : see A (see Y x) = see (Y.map (see A)) x := by
  by_cases e : x < 0
  · simp [see, e]
  · have hx : x.toNat < Y.length := by omega
    unfold see
    rw [if_neg e, if_neg e, List.getElem?_map, List.getElem?_eq_getElem hx]
    simp
theorem see_maps (A Y : List Int) {X : List Int} (h : ∀ x ∈ X, x < 0 ∨ x < Y.length) : (X.map (see Y)).map (see A) = X.map (see (Y.map (see A))) := by
  rw [List.map_map]
  exact List.map_congr_left fun x hx => see_see A Y (h x hx)
theorem thru_map (A : List Int) : ∀ (l : List (List Pc)) (Y : List Int), Chain Y.length l → (thru Y l).map (see A) = thru (Y.map (see A)) l
  | [], _, _ => rfl
  | d :: l, Y, h => by
    obtain ⟨h1, h2, h3, h4, h5, h6⟩ := h
    simp only [thru]
    have hl : ((atoms 0 d).map (see Y)).length = (oul d).toNat := by rw [List.length_map]; have := atoms_len 0 h1; omega
    rw [thru_map A l _ (by rw [hl]; have := oul_nn h1; rw [Int.toNat_of_nonneg this]; exact h6), see_maps A Y (fun x hx => by
      rcases atoms_bd d 0 x h1 hx with h | h
      · exact .inl h
      · exact .inr (by omega))]
theorem thru_len : ∀ (l : List (List Pc)) (A : List Int), Chain A.length l → ((thru A l).length : Int) = endL A.length l
  | [], _, _ => rfl
  | d :: l, A, h => by
    obtain ⟨h1, h2, h3, h4, h5, h6⟩ := h
    have hl : (((atoms 0 d).map (see A)).length : Int) = oul d := by rw [List.length_map]; exact atoms_len 0 h1
    simp only [thru, endL]
    rw [← hl] at h6 ⊢
    exact thru_len l _ h6
theorem len_le {d : List Pc} : OkL d → (d.length : Int) ≤ inl d + oul d := by
  induction d with
  | nil => intro _; simp [inl, oul]
  | cons x d ih =>
    intro h
    have := ih h.cons.2
    simp only [List.length_cons, inl, oul]
    have : 1 ≤ inn x + oun x := by
      unfold inn oun
      rcases h.cons.1 with ⟨_, h, _⟩ | ⟨h1, h2, h3⟩
      · split <;> omega
      · rw [if_neg (by omega)]; omega
    push_cast
    omega
/-- A normal form with a result A. -/
def Is (n : Int) (A : List Int) (d : List Pc) : Prop := OkL d ∧ d = ofA n A ∧ inl d = n ∧ atoms 0 d = A
theorem Is.oul {n : Int} {A : List Int} {d : List Pc} (h : Is n A d) : oul d = A.length := oul_atoms h.1 h.2.2.2
theorem is_form {d : List Pc} (h : OkL d) : Is (inl d) (atoms 0 d) (form d) := by
  obtain ⟨h1, h2, h3⟩ := form_ok h
  exact ⟨h1, form_eq h, h2, h3⟩
theorem form_idn {n : Int} (h : 0 ≤ n) : form (idn n) = idn n := by
  unfold idn
  split
  · rfl
  · rw [form, frun_cons, step_ret]
    simp [frun, fret, fend, fzero, gap_nil, keep]
theorem is_idn {n : Nat} : Is n (ups 0 n) (idn n) := by
  have hok : OkL (idn (n : Int)) := by
    unfold idn
    split
    · exact fun _ h => by simp at h
    · exact OkL.mk (retP_ok (by omega)) (fun _ h => by simp at h)
  have h1 : inl (idn (n : Int)) = n := by
    unfold idn
    split
    · simp [inl]; omega
    · simp [inl, inn, retP]
  have h2 : atoms 0 (idn (n : Int)) = ups 0 n := by
    unfold idn
    split
    · have : n = 0 := by omega
      subst this; rfl
    · simp [atoms, atom1, retP, bytes, nos]
  have t := is_form hok
  rw [h1, h2, form_idn (by omega)] at t
  exact t
/-- The composition of two small deltas. -/
theorem cmp_is {n : Int} {A : List Int} {a b : List Pc} (ha : Is n A a) (hn : n ≤ 1000) (hA : A.length ≤ 1000) (hb : OkL b) (hb1 : b.length ≤ 4096) (hb2 : inl b = A.length) (hb3 : oul b ≤ 1000) :
    (cmp a b).2 = 0 ∧ Is n ((atoms 0 b).map (see A)) (cmp a b).1 := by
  have la := len_le ha.1
  have ca : chkL a = 0 := chkL_zero.2 ⟨by have := ha.2.2.1; have := ha.oul; omega, ha.1, by have := ha.2.2.1; omega, by have := ha.oul; omega⟩
  have cb : chkL b = 0 := chkL_zero.2 ⟨hb1, hb, by omega, by omega⟩
  have hf : oul a = inl b := by rw [ha.oul, hb2]
  obtain ⟨o1, o2, o3⟩ := comp_spec _ a b 0 (Nat.le_refl _) ha.1 hb hf (Int.le_refl 0)
  obtain ⟨_, _, _, c4, _⟩ := cmp_prog ca cb hf
  have t := is_form o1
  rw [o3, o2, ha.2.2.1, ha.2.2.2] at t
  have hl := len_le t.1
  have hou := t.oul
  rw [List.length_map, atoms_len 0 hb] at hou
  have := t.2.2.1
  have e := c4 (by omega)
  rw [e]
  exact ⟨rfl, t⟩
theorem allGo_is : ∀ (l : List (List Pc)) {n : Int} {A : List Int} {a : List Pc}, Is n A a → n ≤ 1000 → A.length ≤ 1000 → Chain A.length l → (allGo l (a, 0)).2 = 0 ∧ Is n (thru A l) (allGo l (a, 0)).1
  | [], n, A, a, h, _, _, _ => ⟨rfl, h⟩
  | d :: l, n, A, a, h, h1, h2, hc => by
    obtain ⟨c1, c2, c3, c4, c5, c6⟩ := hc
    obtain ⟨e1, e2⟩ := cmp_is h h1 h2 c1 c3 c2 c5
    have hl : (((atoms 0 d).map (see A)).length : Int) = oul d := by rw [List.length_map]; exact atoms_len 0 c1
    have ho := oul_nn c1
    unfold allGo
    rw [if_neg (by simp), show cmp (a, (0 : Int)).1 d = ((cmp a d).1, 0) from Prod.ext rfl e1]
    exact allGo_is l e2 h1 (by omega) (by rw [hl]; exact c6)
theorem allE_is {n : Nat} {l : List (List Pc)} (hn : n ≤ 1000) (h : Chain n l) : (allE n l).2 = 0 ∧ Is n (thru (ups 0 n) l) (allE n l).1 := by
  have e : idE (n : Int) = (idn n, 0) := by unfold idE; rw [if_neg (by omega), if_neg (by omega)]
  obtain ⟨h1, h2⟩ := allGo_is l (is_idn (n := n)) (by omega) (by rw [ups_len]; exact hn) (by rw [ups_len]; exact h)
  unfold allE
  rw [e, if_neg (by simpa using h1)]
  exact ⟨h1, h2⟩
theorem chain_app : ∀ (l m : List (List Pc)) (n : Int), Chain n (l ++ m) ↔ Chain n l ∧ Chain (endL n l) m
  | [], m, n => by simp [Chain, endL]
  | d :: l, m, n => by
    simp only [List.cons_append, Chain, endL, chain_app l m]
    simp only [and_assoc]
theorem thru_app : ∀ (l m : List (List Pc)) (A : List Int), thru A (l ++ m) = thru (thru A l) m
  | [], _, _ => rfl
  | d :: l, m, A => by simp only [List.cons_append, thru, thru_app l m]
theorem endL_bd : ∀ (l : List (List Pc)) (n : Int), 0 ≤ n → n ≤ 1000 → Chain n l → 0 ≤ endL n l ∧ endL n l ≤ 1000
  | [], n, h, h2, _ => ⟨h, h2⟩
  | d :: l, n, h, h2, hc => by
    obtain ⟨c1, c2, c3, c4, c5, c6⟩ := hc
    exact endL_bd l (oul d) (oul_nn c1) c5 c6
/-- Deltas between revisions compose. -/
theorem all_comp {n k : Nat} {l m : List (List Pc)} (hn : n ≤ 1000) (h : Chain n (l ++ m)) (hk : endL n l = k) : cmp (allE n l).1 (allE k m).1 = ((allE n (l ++ m)).1, 0) := by
  obtain ⟨c1, c2⟩ := (chain_app l m n).1 h
  rw [hk] at c2
  have hb := endL_bd l n (by omega) (by omega) c1
  obtain ⟨e1, i1⟩ := allE_is hn c1
  obtain ⟨e2, i2⟩ := allE_is (n := k) (by omega) c2
  obtain ⟨e3, i3⟩ := allE_is hn h
  have l1 : ((thru (ups 0 n) l).length : Int) = k := by rw [thru_len l _ (by rw [ups_len]; exact c1), ups_len, hk]
  have l2 := endL_bd m k (by omega) (by omega) c2
  have lo : oul (allE k m).1 ≤ 1000 := by
    rw [i2.oul, thru_len m _ (by rw [ups_len]; exact c2), ups_len]
    exact l2.2
  have ll := len_le i2.1
  have li := i2.2.2.1
  obtain ⟨f1, f2⟩ := cmp_is i1 (by omega) (by omega) i2.1 (by omega) (by rw [li, l1]) lo
  rw [i2.2.2.2, thru_map _ m _ (by rw [ups_len]; exact c2)] at f2
  rw [show (ups 0 k).map (see (thru (ups 0 n) l)) = thru (ups 0 n) l by
    rw [show k = (thru (ups 0 n) l).length by omega]
    have t := see_ups (thru (ups 0 n) l) []
    rwa [List.append_nil] at t, ← thru_app] at f2
  exact Prod.ext (by rw [f2.2.1, i3.2.1]) f1
def text (t : List UInt8) (A : List Int) : List UInt8 := A.map fun x => if x < 0 then UInt8.ofNat (-1 - x).toNat else (t[x.toNat]?).getD 0
theorem text_negs (t l : List UInt8) : text t (l.map neg) = l := by
  unfold text
  rw [List.map_map]
  refine (List.map_congr_left fun b _ => ?_).trans (List.map_id l)
  simp only [Function.comp]
  rw [if_pos (neg_lt b), neg_back]
  rfl
theorem text_app (t : List UInt8) (A B : List Int) : text t (A ++ B) = text t A ++ text t B := by simp [text]
theorem text_ups (t : List UInt8) : ∀ (n : Nat) (i : Int), 0 ≤ i → i + n ≤ t.length → text t (ups i n) = (t.drop i.toNat).take n
  | 0, _, _, _ => by simp [ups, text]
  | n + 1, i, h, h2 => by
    have e : text t (ups i (n + 1)) = (t[i.toNat]?).getD 0 :: text t (ups (i + 1) n) := by simp [text, ups, show ¬ i < 0 by omega]
    have hi : i.toNat < t.length := by push_cast at h2; omega
    rw [e, text_ups t n (i + 1) (by omega) (by push_cast at h2; omega), List.getElem?_eq_getElem hi, show (i + 1).toNat = i.toNat + 1 by omega]
    rw [List.drop_eq_getElem_cons hi, List.take_succ_cons]
    rfl
theorem text_see (t : List UInt8) (A : List Int) {X : List Int} (h : ∀ x ∈ X, x < 0 ∨ x < A.length) : text t (X.map (see A)) = text (text t A) X := by
  unfold text
  rw [List.map_map]
  refine List.map_congr_left fun x hx => ?_
  simp only [Function.comp]
  by_cases e : x < 0
  · simp [see, e]
  · have hx' : x.toNat < A.length := by rcases h x hx with h | h <;> omega
    rw [if_neg e, List.getElem?_map, List.getElem?_eq_getElem hx']
    simp only [see, if_neg e, List.getElem?_eq_getElem hx', Option.map_some, Option.getD_some]
theorem text_id (t : List UInt8) : text t (ups 0 t.length) = t := by rw [text_ups t _ 0 (Int.le_refl 0) (by omega)]; simp
/-- The text behind deltas. -/
def texts (t : List UInt8) : List (List Pc) → List UInt8
  | [] => t
  | d :: l => texts (text t (atoms 0 d)) l
theorem text_thru (t : List UInt8) : ∀ (l : List (List Pc)) (A : List Int), Chain A.length l → text t (thru A l) = texts (text t A) l
  | [], _, _ => rfl
  | d :: l, A, h => by
    obtain ⟨h1, h2, h3, h4, h5, h6⟩ := h
    have hl : (((atoms 0 d).map (see A)).length : Int) = oul d := by rw [List.length_map]; exact atoms_len 0 h1
    simp only [thru, texts]
    rw [text_thru t l _ (by rw [hl]; exact h6), text_see t A (fun x hx => by
      rcases atoms_bd d 0 x h1 hx with h | h
      · exact .inl h
      · exact .inr (by omega))]
theorem text_all {t : List UInt8} {l : List (List Pc)} (hn : t.length ≤ 1000) (h : Chain t.length l) : text t (atoms 0 (allE t.length l).1) = texts t l := by
  obtain ⟨_, i1⟩ := allE_is hn h
  rw [i1.2.2.2, text_thru t l _ (by rw [ups_len]; exact h), text_id]
end Dl
end Go.Proofs.YtefpabicgefciaaGreat
namespace Go.Proofs.YtefpabicgefciaaGreat
open Go.RowKit
set_option linter.unusedVariables false
set_option linter.unusedSimpArgs false
set_option linter.unusedSectionVars false
def okB (x : Pc) : Bool := if x.k = 1 ∨ x.k = 3 then decide (1 ≤ x.n) && x.s.toList.isEmpty else if x.k = 2 then decide (x.n = 0) && !x.s.toList.isEmpty else false
theorem empty_iff (s : ByteArray) : s.toList.isEmpty = decide (s.size = 0) := by
  rw [ByteArray.toList_eq, ← Dl.size_list]
  cases s.data.toList <;> simp
theorem okB_iff (x : Pc) : okB x = true ↔ Dl.Ok x := by
  unfold okB Dl.Ok
  rw [empty_iff]
  by_cases h1 : x.k = 1 ∨ x.k = 3
  · have h2 : ¬ x.k = 2 := by omega
    simp [h1, h2]
  · by_cases h2 : x.k = 2 <;> simp [h1, h2]
theorem okB_true {x : Pc} (h : Dl.Ok x) : okB x = true := (okB_iff x).2 h
theorem okB_false {x : Pc} (h : ¬ Dl.Ok x) : okB x = false := by
  cases e : okB x with
  | false => rfl
  | true => exact absurd ((okB_iff x).1 e) h
set_option maxRecDepth 100000 in
theorem pvalid_any (x : Pc) (w : World) : Calls Tryz.prog 134 #[x.agg] w fun e w' => e = .returned (.bool (okB x)) ∧ Ch (fun _ => False) w w' := by
  unfold Pc.agg
  go_enter Tryz.func134, Tryz.ntmps134
  go_wp2_with fail
  all_goals go_ret
  all_goals refine ⟨?_, (Ch.refl _ w).alloc _⟩
  all_goals (unfold okB; first | (simp_all; done) | (simp_all; omega))
set_option maxRecDepth 100000 in
theorem psizes_any (x : Pc) (h : Dl.Ok x) (w : World) : Calls Tryz.prog 135 #[x.agg] w fun e w' => e = .returned (.tuple #[.int .i64 (Dl.inn x), .int .i64 (Dl.oun x)]) ∧ Ch (fun _ => False) w w' := by
  have h2 : x.k = 2 → x.n = 0 := by rcases h with ⟨_, _⟩ | ⟨_, h, _⟩ <;> omega
  have h3 : x.k ≠ 2 → x.s.size = 0 := by rcases h with ⟨_, _, h⟩ | ⟨h, _⟩ <;> omega
  have hk := h.kind
  unfold Pc.agg
  rcases hk with hk | hk | hk
  · have HI := hid (show Dl.inn x = x.n ∧ Dl.oun x = x.n from ⟨rfl, by unfold Dl.oun; rw [if_pos hk, h3 (by omega)]; omega⟩)
    have b1 : (x.k == 1) = true := by simp [hk]
    clear h2 h3 hk h
    go_enter Tryz.func135, Tryz.ntmps135
    go_wp2_with fail
    refine Mix.wp_region_mix (fun _ => True) (fun i => ([0, 0, 0, 0, 0, 0] : List Nat).getD i 0) [0, 1, 2, 3, 4, 5] (by kernel_rfl) (by kernel_rfl) ?_
    repeat (first | (refine Mix.mix_q (by simp only [List.getElem?_toArray, List.getElem?_cons_zero, List.getElem?_cons_succ]; exact rfl) rfl ?_; go_big_quiet_step (fail); refine wpQuiet_nil ?_) | (refine Mix.mix_p (by simp only [List.getElem?_toArray, List.getElem?_cons_zero, List.getElem?_cons_succ]; exact rfl) rfl rfl ?_; go_big_quiet_step (fail); refine wpQuiet_nil ?_) | (refine Mix.mix_s (by simp only [List.getElem?_toArray, List.getElem?_cons_zero, List.getElem?_cons_succ]; exact rfl) rfl rfl ?_; go_big_quiet_step (fail); refine wpQuiet_nil ?_))
    intro m3
    go_wp2_with fail
    go_ret2
    exact ⟨by (rw [HI.out.1, HI.out.2]; rfl), ((Ch.refl _ w).alloc _).drewN _⟩
  · have HI := hid (show Dl.inn x = 0 ∧ Dl.oun x = x.s.size from ⟨h2 hk, by unfold Dl.oun; rw [if_neg (by omega)]; omega⟩)
    have b1 : (x.k == 1) = false := by simp [hk]
    have b2 : (x.k == 3) = false := by simp [hk]
    clear h2 h3 hk h
    go_enter Tryz.func135, Tryz.ntmps135
    go_wp2_with fail
    refine Mix.wp_region_mix (fun _ => True) (fun i => ([0, 0, 0, 0, 0] : List Nat).getD i 0) [0, 1, 2, 3, 4] (by kernel_rfl) (by kernel_rfl) ?_
    repeat (first | (refine Mix.mix_q (by simp only [List.getElem?_toArray, List.getElem?_cons_zero, List.getElem?_cons_succ]; exact rfl) rfl ?_; go_big_quiet_step (fail); refine wpQuiet_nil ?_) | (refine Mix.mix_p (by simp only [List.getElem?_toArray, List.getElem?_cons_zero, List.getElem?_cons_succ]; exact rfl) rfl rfl ?_; go_big_quiet_step (fail); refine wpQuiet_nil ?_) | (refine Mix.mix_s (by simp only [List.getElem?_toArray, List.getElem?_cons_zero, List.getElem?_cons_succ]; exact rfl) rfl rfl ?_; go_big_quiet_step (fail); refine wpQuiet_nil ?_))
    intro m6
    go_wp2_with fail
    go_ret2
    exact ⟨by (rw [HI.out.1, HI.out.2]; rfl), ((Ch.refl _ w).alloc _).drewN _⟩
  · have HI := hid (show Dl.inn x = x.n ∧ Dl.oun x = 0 from ⟨rfl, by unfold Dl.oun; rw [if_neg (by omega), h3 (by omega)]; omega⟩)
    have b1 : (x.k == 1) = false := by simp [hk]
    have b2 : (x.k == 3) = true := by simp [hk]
    clear h2 h3 hk h
    go_enter Tryz.func135, Tryz.ntmps135
    go_wp2_with fail
    go_ret2
    exact ⟨by (rw [HI.out.1, HI.out.2]; rfl), (Ch.refl _ w).alloc _⟩
/-- What Lengths gives. -/
noncomputable def lenR (xs : List Pc) : Value := if Dl.chkL xs = 0 then .tuple #[.int .i64 (Dl.inl xs), .int .i64 (Dl.oul xs), .int .i64 0] else .tuple #[.int .i64 0, .int .i64 0, .int .i64 (Dl.chkL xs)]
set_option maxRecDepth 100000 in
set_option maxHeartbeats 1000000 in
theorem lengths_any (a : Option Addr) (n c : Nat) (xs : List Pc) (w : World) (ha : InPc w a n xs) (hn : n < 5000000) : Calls Tryz.prog 96 #[.slice a n c] w fun e w' => e = .returned (lenR xs) ∧ Ch (fun _ => False) w w' := by
  have hl := ha.1
  have HA := hid ha
  clear ha
  by_cases hg : 4096 < n
  · have d1 : decide ((4096 : Int) < (n : Int)) = true := decide_eq_true (by omega)
    have d2 : decide (4096 < n) = true := decide_eq_true hg
    have HR := hid (show lenR xs = .tuple #[.int .i64 0, .int .i64 0, .int .i64 5] from by
      have e : Dl.chkL xs = 5 := by unfold Dl.chkL; rw [if_pos (by omega)]
      unfold lenR; rw [e, if_neg (by decide)])
    go_enter Tryz.func96, Tryz.ntmps96
    go_wp2_with fail
    go_ret3
    exact ⟨by (rw [HR.out]; rfl), Ch.refl _ _⟩
  · have d1 : decide ((4096 : Int) < (n : Int)) = false := decide_eq_false (by omega)
    have d2 : decide (4096 < n) = false := decide_eq_false hg
    have HK := hid (show Dl.chkL xs = Dl.chk xs 0 0 from by unfold Dl.chkL; rw [if_neg (by omega)])
    go_enter Tryz.func96, Tryz.ntmps96
    go_wp2_with fail
    go_loopw [2, 3, 14] (fun i o k W => ∃ (k' : Nat) (x y : Int), k' ≤ n ∧ i = .int .i64 x ∧ o = .int .i64 y ∧ k = .int .i64 (k' : Int) ∧ 0 ≤ x ∧ x ≤ 1048576 ∧ 0 ≤ y ∧ y ≤ 1048576 ∧ Dl.inl xs = x + Dl.inl (xs.drop k') ∧ Dl.oul xs = y + Dl.oul (xs.drop k') ∧ Dl.chk xs 0 0 = Dl.chk (xs.drop k') x y ∧ Ch (fun _ => False) w W) (fun _ _ k _ => n - (intOf k).toNat)
    case atStart => exact ⟨0, 0, 0, Nat.zero_le _, rfl, rfl, rfl, Int.le_refl 0, by decide, Int.le_refl 0, by decide, by simp, by simp, by simp, Ch.refl _ _⟩
    case round =>
      obtain ⟨k, x, y, hk, rfl, rfl, rfl, x0, x1, y0, y1, hi, ho, hc, hC⟩ := hrel
      have HI := hid hi
      have HO := hid ho
      have HC := hid hc
      have HCh := hid hC
      clear hi ho hc hC
      by_cases hlt : k < n
      · have d3 : decide ((k : Int) < (n : Int)) = true := decide_eq_true (by omega)
        have d4 : decide (k < n) = true := decide_eq_true hlt
        obtain ⟨p, hp⟩ : ∃ p, xs[k]? = some p := ⟨_, List.getElem?_eq_getElem (by omega)⟩
        obtain ⟨b, off, rfl, hb, hcell⟩ := (HA.out.keep HCh.out (fun _ _ _ _ => id)).2 (by omega)
        have c0 : wr.cell? ⟨b, off + k * 3, none⟩ = some (.int .u8 p.k) := hcell k 0 p _ hp rfl
        have c1 : wr.cell? ⟨b, off + k * 3 + 1, none⟩ = some (.int .i64 p.n) := hcell k 1 p _ hp rfl
        have c2 : wr.cell? ⟨b, off + k * 3 + 2, none⟩ = some (.string p.s) := hcell k 2 p _ hp rfl
        have HDR := hid (show xs.drop k = p :: xs.drop (k + 1) from by
          have h := List.getElem?_eq_some_iff.1 hp
          rw [List.drop_eq_getElem_cons h.1, h.2])
        clear hcell hp
        go_wp2_with fail
        refine calls_world fun W1 hW1 => ?_
        have C1 := hid (show Ch (fun _ => False) w W1 from by rw [hW1]; exact HCh.out.alloc _)
        have B1 := hid (show Blk W1 wr.heap.size 128 #[.int .u8 p.k, .int .i64 p.n, .string p.s] from by rw [hW1]; exact Blk.new wr _ _)
        clear hW1 c0 c1 c2
        refine (pvalid_any p W1).mono ?_
        rintro e w2 ⟨rfl, hc2⟩
        have C2 := hid (C1.out.trans hc2 (fun _ _ h => h))
        have B2 := hid (hc2.blk B1.out id)
        clear hc2
        by_cases hok : Dl.Ok p
        · rw [okB_true hok]
          have hn0 := hok.inn0
          have ho0 := hok.oun0
          have HOK := hid hok
          have c0 : w2.cell? ⟨wr.heap.size, 0, none⟩ = some (.int .u8 p.k) := B2.out.cell 0
          have c1 : w2.cell? ⟨wr.heap.size, 1, none⟩ = some (.int .i64 p.n) := B2.out.cell 1
          have c2 : w2.cell? ⟨wr.heap.size, 2, none⟩ = some (.string p.s) := B2.out.cell 2
          clear hok
          go_wp2_with fail
          refine (psizes_any p HOK.out w2).mono ?_
          rintro e w3 ⟨rfl, hc3⟩
          have C3 := hid (C2.out.trans hc3 (fun _ _ h => h))
          clear hc3 c0 c1 c2
          obtain ⟨u, hu⟩ : ∃ u, u = Dl.inn p := ⟨_, rfl⟩
          obtain ⟨v, hv⟩ : ∃ v, v = Dl.oun p := ⟨_, rfl⟩
          rw [← hu] at hn0
          rw [← hv] at ho0
          rw [← hu, ← hv]
          have HU := hid hu
          have HV := hid hv
          clear hu hv
          by_cases g1 : 1048576 - x < u
          · have d5 : decide (1048576 - x < u) = true := decide_eq_true g1
            have HR := hid (show lenR xs = .tuple #[.int .i64 0, .int .i64 0, .int .i64 5] from by
              have e : Dl.chkL xs = 5 := by rw [HK.out, HC.out, HDR.out]; unfold Dl.chk; rw [if_neg (by simpa using HOK.out), if_pos (.inl (by rw [← HU.out]; exact g1))]
              unfold lenR; rw [e, if_neg (by decide)])
            go_wp2_with fail
            go_ret3
            exact ⟨by (rw [HR.out]; rfl), C3.out⟩
          · have d5 : decide (1048576 - x < u) = false := decide_eq_false g1
            by_cases g2 : 1048576 - y < v
            · have d6 : decide (1048576 - y < v) = true := decide_eq_true g2
              have HR := hid (show lenR xs = .tuple #[.int .i64 0, .int .i64 0, .int .i64 5] from by
                have e : Dl.chkL xs = 5 := by rw [HK.out, HC.out, HDR.out]; unfold Dl.chk; rw [if_neg (by simpa using HOK.out), if_pos (.inr (by rw [← HV.out]; exact g2))]
                unfold lenR; rw [e, if_neg (by decide)])
              go_wp2_with fail
              go_ret3
              exact ⟨by (rw [HR.out]; rfl), C3.out⟩
            · have d6 : decide (1048576 - y < v) = false := decide_eq_false g2
              have g3 : x + u ≤ 1048576 := by omega
              have g4 : y + v ≤ 1048576 := by omega
              go_wp2_with fail
              go_roundw
              case rel => exact ⟨k + 1, x + u, y + v, hlt, rfl, rfl, by go_num, by omega, g3, by omega, g4, by rw [HI.out, HDR.out]; simp only [Dl.inl]; rw [← HU.out]; omega, by rw [HO.out, HDR.out]; simp only [Dl.oul]; rw [← HV.out]; omega, by
                rw [HC.out, HDR.out]
                rw [Dl.chk, if_neg (by simpa using HOK.out), if_neg (by rw [← HU.out, ← HV.out]; omega), ← HU.out, ← HV.out], C3.out⟩
              case measure => simp [intOf]; omega
        · rw [okB_false hok]
          have HR := hid (show lenR xs = .tuple #[.int .i64 0, .int .i64 0, .int .i64 2] from by
            have e : Dl.chkL xs = 2 := by rw [HK.out, HC.out, HDR.out]; unfold Dl.chk; rw [if_pos (by simpa using hok)]
            unfold lenR; rw [e, if_neg (by decide)])
          clear hok
          go_wp2_with fail
          go_ret3
          exact ⟨by (rw [HR.out]; rfl), C2.out⟩
      · obtain rfl : k = n := by omega
        have d3 : decide ((k : Int) < (k : Int)) = false := decide_eq_false (by omega)
        have HR := hid (show lenR xs = .tuple #[.int .i64 x, .int .i64 y, .int .i64 0] from by
          have e0 : xs.drop k = [] := List.drop_eq_nil_of_le (by omega)
          have e1 := HC.out
          have e2 := HI.out
          have e3 := HO.out
          rw [e0] at e1 e2 e3
          simp only [Dl.inl, Dl.oul, Dl.chk, Int.add_zero] at e1 e2 e3
          unfold lenR; rw [HK.out, e1, if_pos rfl, e2, e3])
        go_wp2_with fail
        go_ret3
        exact ⟨by (rw [HR.out]; rfl), HCh.out⟩
theorem lenR_form (xs : List Pc) : ∃ i o, lenR xs = .tuple #[.int .i64 i, .int .i64 o, .int .i64 (Dl.chkL xs)] := by
  unfold lenR
  split
  · rename_i h; exact ⟨_, _, by rw [h]⟩
  · exact ⟨_, _, rfl⟩
theorem dcheck_any (a : Option Addr) (n c : Nat) (xs : List Pc) (w : World) (ha : InPc w a n xs) (hn : n < 5000000) : Calls Tryz.prog 165 #[.slice a n c] w fun e w' => e = .returned (.int .i64 (Dl.chkL xs)) ∧ Ch (fun _ => False) w w' := by
  obtain ⟨i, o, hr⟩ := lenR_form xs
  go_enter Tryz.func165, Tryz.ntmps165
  go_wp2_with fail
  refine (lengths_any a n c xs w ha hn).mono ?_
  rintro e w1 ⟨rfl, hc⟩
  rw [hr]
  go_wp2_with fail
  go_ret
  exact ⟨rfl, hc⟩
theorem identity_any (n : Int) (w : World) : Calls Tryz.prog 133 #[.int .i64 n] w fun e w' => ∃ v, e = .returned (.tuple #[v, .int .i64 (Dl.idE n).2]) ∧ w'.ownsRow w.heap.size 128 3 v (Dl.idE n).1.length (pcCells (Dl.idE n).1) ∧ Ch (fun _ => False) w w' := by
  by_cases h1 : n < 0
  · have d1 : decide (n < 0) = true := decide_eq_true h1
    have HI := hid (show Dl.idE n = ([], 2) from by unfold Dl.idE; rw [if_pos h1])
    go_enter Tryz.func133, Tryz.ntmps133
    go_wp2_with fail
    go_ret2
    rw [HI.out]
    exact ⟨_, rfl, World.ownsRow_nil _ _ _ _, Ch.refl _ _⟩
  · have d1 : decide (n < 0) = false := decide_eq_false h1
    by_cases h2 : 1048576 < n
    · have d2 : decide (1048576 < n) = true := decide_eq_true h2
      have HI := hid (show Dl.idE n = ([], 5) from by unfold Dl.idE; rw [if_neg h1, if_pos h2])
      go_enter Tryz.func133, Tryz.ntmps133
      go_wp2_with fail
      go_ret2
      rw [HI.out]
      exact ⟨_, rfl, World.ownsRow_nil _ _ _ _, Ch.refl _ _⟩
    · have d2 : decide (1048576 < n) = false := decide_eq_false h2
      by_cases h3 : n = 0
      · have HI := hid (show Dl.idE n = ([], 0) from by unfold Dl.idE Dl.idn; rw [if_neg h1, if_neg h2, if_pos h3])
        have b3 : (n == 0) = true := by simp [h3]
        clear h3
        go_enter Tryz.func133, Tryz.ntmps133
        go_wp2_with fail
        go_ret2
        rw [HI.out]
        exact ⟨_, rfl, World.ownsRow_nil _ _ _ _, Ch.refl _ _⟩
      · have HI := hid (show Dl.idE n = ([Dl.retP n], 0) from by unfold Dl.idE Dl.idn; rw [if_neg h1, if_neg h2, if_neg h3])
        have b3 : (n == 0) = false := by simp [h3]
        clear h3
        go_enter Tryz.func133, Tryz.ntmps133
        go_wp2_with fail
        go_ret2
        rw [HI.out]
        refine ⟨_, rfl, ⟨rfl, .inr ⟨w.heap.size, 1, _, rfl, Nat.le_refl _, Blk.new w _ _, Nat.le_refl _, by decide, rfl, rfl⟩⟩, (Ch.refl _ w).alloc _⟩
end Go.Proofs.YtefpabicgefciaaGreat
namespace Go.Proofs.YtefpabicgefciaaGreat
open Go.RowKit
set_option linter.unusedVariables false
set_option linter.unusedSimpArgs false
set_option linter.unusedSectionVars false
/-- A revision but for its slices. -/
structure Rv where
  num : Int
  at' : Int
  h : Int
  b : Int
  r : Int
  l : Int
def rvCells (x : Rv) (mv dv : Value) : List Value := [.int .i64 x.num, .int .u64 x.at', .int .i64 x.h, .int .i64 x.b, .int .i64 x.r, .int .i64 x.l, mv, dv]
def rvA (x : Rv) (mv dv : Value) : Array Value := #[.int .i64 x.num, .int .u64 x.at', .int .i64 x.h, .int .i64 x.b, .int .i64 x.r, .int .i64 x.l, mv, dv]
theorem at_world {E : Act → World → Prop} {a : Act} {w : World} (h : ∀ W, W = w → E a W) : E a w := h w rfl
set_option maxRecDepth 100000 in
set_option maxHeartbeats 1000000 in
theorem copied_any (x : Rv) (am ad : Option Addr) (n1 c1 n2 c2 : Nat) (ms : List Mk) (ds : List Pc) (w : World) (hm : InMk w am n1 ms) (hd : InPc w ad n2 ds) (zm : am = none → c1 = 0) (zd : ad = none → c2 = 0) (h1 : n1 < 1000) (h2 : n2 < 1000) :
    Calls Tryz.prog 82 #[.agg #[.int .i64 x.num, .int .u64 x.at', .int .i64 x.h, .int .i64 x.b, .int .i64 x.r, .int .i64 x.l, .slice am n1 c1, .slice ad n2 c2]] w fun e w' => ∃ mv dv, e = .returned (.agg (rvA x mv dv)) ∧ w'.ownsRow w.heap.size 263 3 mv n1 (mkCells ms) ∧ w'.ownsRow w.heap.size 128 3 dv n2 (pcCells ds) ∧ Ch (fun _ => False) w w' := by
  have hm1 := hm.1
  have hd1 := hd.1
  go_enter Tryz.func82, Tryz.ntmps82
  go_wp2_with fail
  obtain ⟨S, hS⟩ : ∃ S : Nat → Prop, ∀ k, S k ↔ k = w.heap.size := ⟨_, fun _ => Iff.rfl⟩
  have hSp : Mix.Has S w.heap.size := (hS _).2 rfl
  have HS := hid hS
  clear hS
  refine Mix.wp_region_mix S (fun i => ([0, 0, 3, 1, 4, 2, 1, 2, 0, 2] : List Nat).getD i 0) [0, 1, 3, 4, 2, 6, 5, 7, 8, 9] (by kernel_rfl) (by kernel_rfl) ?_
  refine Mix.mix_world fun W0 hW0 => ?_
  have cW : Ch (fun _ => False) w W0 := by rw [hW0]; exact ((Ch.refl _ w).alloc _).alloc _
  have bB : Blk W0 w.heap.size 79 #[.int .i64 x.num, .int .u64 x.at', .int .i64 x.h, .int .i64 x.b, .int .i64 x.r, .int .i64 x.l, .slice am n1 c1, .slice ad n2 c2] := by rw [hW0]; exact (Blk.new w _ _).alloc _
  have bR : Blk W0 (w.heap.size + 1) 79 #[.int .i64 0, .int .u64 0, .int .i64 0, .int .i64 0, .int .i64 0, .int .i64 0, .slice none 0 0, .slice none 0 0] := by
    rw [hW0]
    have := Blk.new (w.alloc (.cells #[.int .i64 x.num, .int .u64 x.at', .int .i64 x.h, .int .i64 x.b, .int .i64 x.r, .int .i64 x.l, .slice am n1 c1, .slice ad n2 c2] 79)) 79 #[.int .i64 0, .int .u64 0, .int .i64 0, .int .i64 0, .int .i64 0, .int .i64 0, .slice none 0 0, .slice none 0 0]
    simpa using this
  have c6 : W0.cell? ⟨w.heap.size, 6, none⟩ = some (.slice am n1 c1) := bB.cell 6
  have c7 : W0.cell? ⟨w.heap.size, 7, none⟩ = some (.slice ad n2 c2) := bB.cell 7
  have HM := hid (hm.keep cW (fun _ _ _ _ => id))
  have HD := hid (hd.keep cW (fun _ _ _ _ => id))
  have HB := hid bB
  have HR := hid bR
  have HC := hid cW
  clear hW0 bB bR cW hm hd
  repeat (first | (refine Mix.mix_q (by simp only [List.getElem?_toArray, List.getElem?_cons_zero, List.getElem?_cons_succ]; exact rfl) rfl ?_; go_big_quiet_step (fail); refine wpQuiet_nil ?_) | (refine Mix.mix_p (by simp only [List.getElem?_toArray, List.getElem?_cons_zero, List.getElem?_cons_succ]; exact rfl) rfl rfl ?_; go_big_quiet_step (fail); refine wpQuiet_nil ?_) | (refine Mix.mix_s (by simp only [List.getElem?_toArray, List.getElem?_cons_zero, List.getElem?_cons_succ]; exact rfl) rfl rfl ?_; go_big_quiet_step (fail); refine wpQuiet_nil ?_))
  refine Mix.mix_a (by simp only [List.getElem?_toArray, List.getElem?_cons_zero, List.getElem?_cons_succ]; exact rfl) rfl fun W1 hW1 => ?_
  obtain ⟨k1, rfl⟩ := hW1
  go_wp2_with fail
  refine (cloneMarks_any am n1 c1 ms (W0.drewN k1) (HM.out.keep ((Ch.refl (fun _ => False) W0).drewN k1) (fun _ _ _ _ => id)) (by omega) zm).mono ?_
  rintro e w2 ⟨mv, rfl, hown, hc⟩
  rw [hm1] at hown
  obtain ⟨ma, mc, hmv, hmc⟩ := own_slice hown
  subst hmv
  have c2 : Ch (fun _ => False) W0 w2 := hc.ofDrewN
  have hkeep : Mix.Keep S W0 w2 := fun k hk => by rw [(HS.out k).1 hk]; exact c2.block _ HB.out.lt id
  have HO1 := hid (own_mono hown (show w.heap.size ≤ (W0.drewN k1).heap.size from HC.out.size))
  have HB2 := hid (c2.blk HB.out id)
  have HR2 := hid (c2.blk HR.out id)
  have HD2 := hid (HD.out.keep c2 (fun _ _ _ _ => id))
  have HC2 := hid (HC.out.trans c2 (fun _ _ h => h))
  clear hown hc c2 c6 c7
  go_wp2_with fail
  refine ⟨hkeep, ?_⟩
  clear hkeep
  repeat (first | (refine Mix.mix_q (by simp only [List.getElem?_toArray, List.getElem?_cons_zero, List.getElem?_cons_succ]; exact rfl) rfl ?_; go_big_quiet_step (fail); refine wpQuiet_nil ?_) | (refine Mix.mix_p (by simp only [List.getElem?_toArray, List.getElem?_cons_zero, List.getElem?_cons_succ]; exact rfl) rfl rfl ?_; go_big_quiet_step (fail); refine wpQuiet_nil ?_) | (refine Mix.mix_s (by simp only [List.getElem?_toArray, List.getElem?_cons_zero, List.getElem?_cons_succ]; exact rfl) rfl rfl ?_; go_big_quiet_step (fail); refine wpQuiet_nil ?_))
  refine Mix.mix_e (by simp only [List.getElem?_toArray, List.getElem?_cons_zero, List.getElem?_cons_succ]; exact rfl) rfl fun W3 hW3 => ?_
  obtain ⟨k2, rfl⟩ := hW3
  go_wp2_with fail
  refine (clonePieces_any ad n2 c2 ds (w2.drewN k2) (HD2.out.keep ((Ch.refl (fun _ => False) w2).drewN k2) (fun _ _ _ _ => id)) (by omega) zd).mono ?_
  rintro e w4 ⟨dv, rfl, hown, hc⟩
  rw [hd1] at hown
  obtain ⟨da, dc, hdv, hdc⟩ := own_slice hown
  subst hdv
  have c4 : Ch (fun _ => False) w2 w4 := hc.ofDrewN
  have HO2 := hid (own_mono hown (show w.heap.size ≤ (w2.drewN k2).heap.size from HC2.out.size))
  have HO1b := hid (c4.own HO1.out (fun _ _ => id))
  have HB4 := hid (c4.blk HB2.out id)
  have HR4 := hid (c4.blk HR2.out id)
  have HC4 := hid (HC2.out.trans c4 (fun _ _ h => h))
  have f6 := HB4.out.free 6
  have f7 := HB4.out.free 7
  have c6 : w4.cell? ⟨w.heap.size, 6, none⟩ = some (.slice am n1 c1) := HB4.out.cell 6
  have c7 : w4.cell? ⟨w.heap.size, 7, none⟩ = some (.slice ad n2 c2) := HB4.out.cell 7
  clear hown hc c4
  go_wp2_with fail
  repeat (first | (refine Mix.mix_q (by simp only [List.getElem?_toArray, List.getElem?_cons_zero, List.getElem?_cons_succ]; exact rfl) rfl ?_; go_big_quiet_step (fail); refine wpQuiet_nil ?_) | (refine Mix.mix_p (by simp only [List.getElem?_toArray, List.getElem?_cons_zero, List.getElem?_cons_succ]; exact rfl) rfl rfl ?_; go_big_quiet_step (fail); refine wpQuiet_nil ?_) | (refine Mix.mix_s (by simp only [List.getElem?_toArray, List.getElem?_cons_zero, List.getElem?_cons_succ]; exact rfl) rfl rfl ?_; go_big_quiet_step (fail); refine wpQuiet_nil ?_))
  refine Mix.mix_e (by simp only [List.getElem?_toArray, List.getElem?_cons_zero, List.getElem?_cons_succ]; exact rfl) rfl fun W5 hW5 => ?_
  obtain ⟨k3, rfl⟩ := hW5
  go_wp2_with fail
  repeat (first | (refine Mix.mix_q (by simp only [List.getElem?_toArray, List.getElem?_cons_zero, List.getElem?_cons_succ]; exact rfl) rfl ?_; go_big_quiet_step (fail); refine wpQuiet_nil ?_) | (refine Mix.mix_p (by simp only [List.getElem?_toArray, List.getElem?_cons_zero, List.getElem?_cons_succ]; exact rfl) rfl rfl ?_; go_big_quiet_step (fail); refine wpQuiet_nil ?_) | (refine Mix.mix_s (by simp only [List.getElem?_toArray, List.getElem?_cons_zero, List.getElem?_cons_succ]; exact rfl) rfl rfl ?_; go_big_quiet_step (fail); refine wpQuiet_nil ?_))
  refine Mix.mix_e (by simp only [List.getElem?_toArray, List.getElem?_cons_zero, List.getElem?_cons_succ]; exact rfl) rfl fun W6 hW6 => ?_
  obtain ⟨k4, rfl⟩ := hW6
  go_wp2_with fail
  intro k5
  refine at_world fun W6 hW6 => ?_
  have hne1 : w.heap.size + 1 ≠ w.heap.size := by omega
  have B6 : Blk W6 w.heap.size 79 #[.int .i64 x.num, .int .u64 x.at', .int .i64 x.h, .int .i64 x.b, .int .i64 x.r, .int .i64 x.l, .slice ma n1 mc, .slice da n2 dc] := by
    rw [hW6]; exact ((((HB4.out.drewN k3).put 6 (.slice ma n1 mc)).drewN k4).put 7 (.slice da n2 dc)).drewN k5
  have R6 : Blk W6 (w.heap.size + 1) 79 #[.int .i64 0, .int .u64 0, .int .i64 0, .int .i64 0, .int .i64 0, .int .i64 0, .slice none 0 0, .slice none 0 0] := by
    rw [hW6]; exact ((((HR4.out.drewN k3).far (p := ⟨w.heap.size, 6, none⟩) hne1 _).drewN k4).far (p := ⟨w.heap.size, 7, none⟩) hne1 _).drewN k5
  have c6 : Ch (fun k => k = w.heap.size) w4 W6 := by
    rw [hW6]; exact ((((Ch.refl (fun k => k = w.heap.size) w4).drewN k3).set (fun _ => rfl) _).drewN k4 |>.set (fun _ => rfl) _).drewN k5
  have o1 := HB4.out.own HO1b.out (by decide)
  have o2 := HB4.out.own HO2.out (by decide)
  have HO6 := hid (c6.own HO1b.out (fun k hk e => o1 (by rw [hk, e])))
  have HP6 := hid (c6.own HO2.out (fun k hk e => o2 (by rw [hk, e])))
  have HC6 := hid (HC4.out.trans c6 (fun i hi e => absurd hi (by omega)))
  have b0 : W6.cell? ⟨w.heap.size, 0, none⟩ = some (.int .i64 x.num) := B6.cell 0
  have b1 : W6.cell? ⟨w.heap.size, 1, none⟩ = some (.int .u64 x.at') := B6.cell 1
  have b2 : W6.cell? ⟨w.heap.size, 2, none⟩ = some (.int .i64 x.h) := B6.cell 2
  have b3 : W6.cell? ⟨w.heap.size, 3, none⟩ = some (.int .i64 x.b) := B6.cell 3
  have b4 : W6.cell? ⟨w.heap.size, 4, none⟩ = some (.int .i64 x.r) := B6.cell 4
  have b5 : W6.cell? ⟨w.heap.size, 5, none⟩ = some (.int .i64 x.l) := B6.cell 5
  have b6 : W6.cell? ⟨w.heap.size, 6, none⟩ = some (.slice ma n1 mc) := B6.cell 6
  have b7 : W6.cell? ⟨w.heap.size, 7, none⟩ = some (.slice da n2 dc) := B6.cell 7
  have r0 : W6.cell? ⟨w.heap.size + 1, 0, none⟩ = some (.int .i64 0) := R6.cell 0
  have r1 : W6.cell? ⟨w.heap.size + 1, 1, none⟩ = some (.int .u64 0) := R6.cell 1
  have r2 : W6.cell? ⟨w.heap.size + 1, 2, none⟩ = some (.int .i64 0) := R6.cell 2
  have r3 : W6.cell? ⟨w.heap.size + 1, 3, none⟩ = some (.int .i64 0) := R6.cell 3
  have r4 : W6.cell? ⟨w.heap.size + 1, 4, none⟩ = some (.int .i64 0) := R6.cell 4
  have r5 : W6.cell? ⟨w.heap.size + 1, 5, none⟩ = some (.int .i64 0) := R6.cell 5
  have r6 : W6.cell? ⟨w.heap.size + 1, 6, none⟩ = some (.slice none 0 0) := R6.cell 6
  have r7 : W6.cell? ⟨w.heap.size + 1, 7, none⟩ = some (.slice none 0 0) := R6.cell 7
  have s0 := R6.free 0
  have s1 := R6.free 1
  have s2 := R6.free 2
  have s3 := R6.free 3
  have s4 := R6.free 4
  have s5 := R6.free 5
  have s6 := R6.free 6
  have s7 := R6.free 7
  clear hW6 c6 o1 o2 f6 f7 c7
  go_wp2_with fail
  refine at_world fun W7 hW7 => ?_
  have R7 : Blk W7 (w.heap.size + 1) 79 #[.int .i64 x.num, .int .u64 x.at', .int .i64 x.h, .int .i64 x.b, .int .i64 x.r, .int .i64 x.l, .slice ma n1 mc, .slice da n2 dc] := by
    rw [hW7]; exact (((((((R6.put 0 _).put 1 _).put 2 _).put 3 _).put 4 _).put 5 _).put 6 _).put 7 _
  have c7 : Ch (fun k => k = w.heap.size + 1) W6 W7 := by
    rw [hW7]; exact ((((((((Ch.refl (fun k => k = w.heap.size + 1) W6).set (fun _ => rfl) _).set (fun _ => rfl) _).set (fun _ => rfl) _).set (fun _ => rfl) _).set (fun _ => rfl) _).set (fun _ => rfl) _).set (fun _ => rfl) _).set (fun _ => rfl) _
  have o1 := R6.own HO6.out (by decide)
  have o2 := R6.own HP6.out (by decide)
  have t0 : W7.cell? ⟨w.heap.size + 1, 0, none⟩ = some (.int .i64 x.num) := R7.cell 0
  have t1 : W7.cell? ⟨w.heap.size + 1, 1, none⟩ = some (.int .u64 x.at') := R7.cell 1
  have t2 : W7.cell? ⟨w.heap.size + 1, 2, none⟩ = some (.int .i64 x.h) := R7.cell 2
  have t3 : W7.cell? ⟨w.heap.size + 1, 3, none⟩ = some (.int .i64 x.b) := R7.cell 3
  have t4 : W7.cell? ⟨w.heap.size + 1, 4, none⟩ = some (.int .i64 x.r) := R7.cell 4
  have t5 : W7.cell? ⟨w.heap.size + 1, 5, none⟩ = some (.int .i64 x.l) := R7.cell 5
  have t6 : W7.cell? ⟨w.heap.size + 1, 6, none⟩ = some (.slice ma n1 mc) := R7.cell 6
  have t7 : W7.cell? ⟨w.heap.size + 1, 7, none⟩ = some (.slice da n2 dc) := R7.cell 7
  refine bodyPost_ret (v := .agg (rvA x (.slice ma n1 mc) (.slice da n2 dc))) ?_ rfl ⟨_, _, rfl, c7.own HO6.out (fun k hk e => o1 (by rw [hk, e])), c7.own HP6.out (fun k hk e => o2 (by rw [hk, e])), HC6.out.trans c7 (fun i hi e => absurd hi (by omega))⟩
  clear hW7 c7 o1 o2
  simp [results, Tryz.results82, go_sem, rvA, t0, t1, t2, t3, t4, t5, t6, t7]
end Go.Proofs.YtefpabicgefciaaGreat
