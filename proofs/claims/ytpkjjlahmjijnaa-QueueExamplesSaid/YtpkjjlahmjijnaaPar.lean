/- Regions that draw their order and hold several appends side by side: one law for all orders. -/
import Derived.Test.YtpkjjlahmjijnaaMixT
import Derived.Test.YtpkjjlahmjijnaaLib
namespace Go.Proofs.Ytpkjjlahmjijnaa.Mix
open Go
set_option linter.unusedSimpArgs false
set_option linter.unusedVariables false

section
variable {P : Program} {ops : Array Oper} {S : Nat → Prop} {kd : Nat → Nat}

/-- How far each chain of two operations has come: all ways. -/
def vecs : Nat → List (List Nat)
  | 0 => [[]]
  | m + 1 => (vecs m).flatMap fun s => [0 :: s, 1 :: s, 2 :: s]
theorem mem_vecs : ∀ (m : Nat) (s : List Nat), s ∈ vecs m ↔ s.length = m ∧ ∀ x ∈ s, x ≤ 2
  | 0, s => by
    simp only [vecs, List.mem_cons, List.not_mem_nil, or_false, List.length_eq_zero_iff]
    exact ⟨fun h => ⟨h, by subst h; simp⟩, fun h => h.1⟩
  | m + 1, s => by
    cases s with
    | nil => simp [vecs]
    | cons x s =>
      simp only [vecs, List.mem_flatMap, List.mem_cons, List.not_mem_nil, or_false, List.cons.injEq, List.length_cons, Nat.add_right_cancel_iff, forall_eq_or_imp]
      constructor
      · rintro ⟨t, ht, (⟨rfl, rfl⟩ | ⟨rfl, rfl⟩ | ⟨rfl, rfl⟩)⟩ <;> exact ⟨((mem_vecs m s).1 ht).1, by decide, ((mem_vecs m s).1 ht).2⟩
      · rintro ⟨h1, h2, h3⟩
        refine ⟨s, (mem_vecs m s).2 ⟨h1, h3⟩, ?_⟩
        have : x = 0 ∨ x = 1 ∨ x = 2 := by omega
        rcases this with rfl | rfl | rfl <;> simp

/-- Operation j belongs to chain c. -/
def chAt (cs : List (Nat × Nat)) (c : Nat) : Nat × Nat := cs.getD c (0, 0)
def opAt (cs : List (Nat × Nat)) (c s : Nat) : Nat := if s = 0 then (chAt cs c).1 else (chAt cs c).2
def inCh (cs : List (Nat × Nat)) (j : Nat) : Bool := cs.any fun c => c.1 == j || c.2 == j
/-- What is asked of the chains: each operation of theirs is ready once its own chain is there, and all others wait for all chains. -/
def parB (ops : Array Oper) (listed : Array Bool) (cs : List (Nat × Nat)) : Bool :=
  (listed.size == ops.size) &&
  ((List.range cs.length).all fun c => (List.range cs.length).all fun d => (chAt cs c).1 != (chAt cs d).2 && (c == d || ((chAt cs c).1 != (chAt cs d).1 && (chAt cs c).2 != (chAt cs d).2))) &&
  ((List.range cs.length).all fun c => listed.getD (chAt cs c).1 true == false && listed.getD (chAt cs c).2 true == false &&
    ((ops[(chAt cs c).1]?).map fun o => o.after.all fun e => !Region.binds .any e || listed.getD e.on false).getD false &&
    ((ops[(chAt cs c).2]?).map fun o => (o.after.all fun e => !Region.binds .any e || listed.getD e.on false || e.on == (chAt cs c).1 || (List.range c).any fun d => e.on == (chAt cs d).2) && (o.after.any fun e => Region.binds .any e && e.on == (chAt cs c).1)).getD false) &&
  ((List.range ops.size).all fun j => listed.getD j true || inCh cs j ||
    ((ops[j]?).map fun o => ((List.range cs.length).all fun c => o.after.any fun e => Region.binds .any e && e.on == (chAt cs c).2) || (o.after.any fun e => Region.binds .any e && !listed.getD e.on true && !inCh cs e.on)).getD false)

/-- Which operations of the chains are listed. -/
def mkd (cs : List (Nat × Nat)) (s : List Nat) (j : Nat) : Prop := ∃ c, c < cs.length ∧ ((1 ≤ s.getD c 2 ∧ (chAt cs c).1 = j) ∨ (2 ≤ s.getD c 2 ∧ (chAt cs c).2 = j))
structure Lst (listed L : Array Bool) (cs : List (Nat × Nat)) (s : List Nat) : Prop where
  size : L.size = listed.size
  at' : ∀ j, j < L.size → (L.getD j false = true ↔ listed.getD j false = true ∨ mkd cs s j)

theorem getD_bools {L : Array Bool} {j : Nat} : L.getD j true = false ↔ j < L.size ∧ L.getD j false = false := by
  simp only [Array.getD_eq_getD_getElem?]
  by_cases h : j < L.size
  · simp [Array.getElem?_eq_getElem h, h]
  · simp [Array.getElem?_eq_none (by omega : L.size ≤ j), h]
theorem getD_lt {L : Array Bool} {j : Nat} (h : L.getD j false = true) : j < L.size := by
  by_cases hh : j < L.size
  · exact hh
  · rw [Array.getD_eq_getD_getElem?, Array.getElem?_eq_none (by omega)] at h; cases h
theorem inCh_iff {cs : List (Nat × Nat)} {j : Nat} : inCh cs j = true ↔ ∃ c, c < cs.length ∧ ((chAt cs c).1 = j ∨ (chAt cs c).2 = j) := by
  unfold inCh
  rw [List.any_eq_true]
  constructor
  · rintro ⟨x, hx, h⟩
    obtain ⟨c, hc, rfl⟩ := List.mem_iff_getElem.1 hx
    refine ⟨c, hc, ?_⟩
    simp only [Bool.or_eq_true, beq_iff_eq] at h
    simpa [chAt, List.getD_eq_getElem?_getD, hc] using h
  · rintro ⟨c, hc, h⟩
    refine ⟨cs[c], List.getElem_mem _, ?_⟩
    simp only [Bool.or_eq_true, beq_iff_eq]
    simpa [chAt, List.getD_eq_getElem?_getD, hc] using h

section
variable {listed : Array Bool} {cs : List (Nat × Nat)}
structure ParP (ops : Array Oper) (listed : Array Bool) (cs : List (Nat × Nat)) : Prop where
  size : listed.size = ops.size
  ne : ∀ c d, c < cs.length → d < cs.length → (chAt cs c).1 ≠ (chAt cs d).2
  inj : ∀ c d, c < cs.length → d < cs.length → (chAt cs c).1 = (chAt cs d).1 ∨ (chAt cs c).2 = (chAt cs d).2 → c = d
  free : ∀ c, c < cs.length → listed.getD (chAt cs c).1 true = false ∧ listed.getD (chAt cs c).2 true = false
  first : ∀ c, c < cs.length → ∃ o, ops[(chAt cs c).1]? = some o ∧ ∀ e ∈ o.after, Region.binds .any e = true → listed.getD e.on false = true
  second : ∀ c, c < cs.length → ∃ o, ops[(chAt cs c).2]? = some o ∧ (∀ e ∈ o.after, Region.binds .any e = true → listed.getD e.on false = true ∨ e.on = (chAt cs c).1 ∨ ∃ d, d < c ∧ e.on = (chAt cs d).2) ∧ ∃ e ∈ o.after, Region.binds .any e = true ∧ e.on = (chAt cs c).1
  other : ∀ j, j < ops.size → listed.getD j true = false → inCh cs j = false → ∃ o, ops[j]? = some o ∧ ((∀ c, c < cs.length → ∃ e ∈ o.after, Region.binds .any e = true ∧ e.on = (chAt cs c).2) ∨ ∃ e ∈ o.after, Region.binds .any e = true ∧ listed.getD e.on true = false ∧ inCh cs e.on = false)

theorem parB_spec (h : parB ops listed cs = true) : ParP ops listed cs := by
  unfold parB at h
  simp only [Bool.and_eq_true, List.all_eq_true, List.mem_range, beq_iff_eq] at h
  obtain ⟨⟨⟨h1, h2⟩, h3⟩, h4⟩ := h
  refine ⟨h1, fun c d hc hd => ?_, fun c d hc hd e => ?_, fun c hc => (h3 c hc).1.1, fun c hc => ?_, fun c hc => ?_, fun j hj hl hn => ?_⟩
  · have := (h2 c hc d hd).1
    simpa using this
  · have := (h2 c hc d hd).2
    simp only [Bool.or_eq_true, Bool.and_eq_true, beq_iff_eq, bne_iff_ne] at this
    rcases this with e' | ⟨e1, e2⟩
    · exact e'
    · rcases e with e | e
      · exact absurd e e1
      · exact absurd e e2
  · have := (h3 c hc).1.2
    cases ho : ops[(chAt cs c).1]? with
    | none => rw [ho] at this; simp at this
    | some o =>
      rw [ho] at this
      simp only [Option.map_some, Option.getD_some, Array.all_eq_true_iff_forall_mem] at this
      refine ⟨o, rfl, fun e he hb => ?_⟩
      have := this e he
      simpa [hb] using this
  · have := (h3 c hc).2
    cases ho : ops[(chAt cs c).2]? with
    | none => rw [ho] at this; simp at this
    | some o =>
      rw [ho] at this
      simp only [Option.map_some, Option.getD_some, Bool.and_eq_true, Array.all_eq_true_iff_forall_mem] at this
      refine ⟨o, rfl, fun e he hb => ?_, ?_⟩
      · have := this.1 e he
        simp only [hb, Bool.not_true, Bool.false_or, Bool.or_eq_true, beq_iff_eq, List.any_eq_true, List.mem_range] at this
        rcases this with (t | t) | ⟨d, hd, t⟩
        · exact .inl t
        · exact .inr (.inl t)
        · exact .inr (.inr ⟨d, hd, t⟩)
      · obtain ⟨e, he, hb⟩ := Array.any_eq_true'.1 this.2
        simp only [Bool.and_eq_true, beq_iff_eq] at hb
        exact ⟨e, he, hb⟩
  · have := h4 j hj
    cases ho : ops[j]? with
    | none => rw [ho, hl, hn] at this; simp at this
    | some o =>
      rw [ho, hl, hn] at this
      simp only [Option.map_some, Option.getD_some, Bool.false_or, Bool.or_eq_true, List.all_eq_true, List.mem_range] at this
      refine ⟨o, rfl, this.imp (fun t c hc => ?_) (fun t => ?_)⟩
      · obtain ⟨e, he, hb⟩ := Array.any_eq_true'.1 (t c hc)
        simp only [Bool.and_eq_true, beq_iff_eq] at hb
        exact ⟨e, he, hb⟩
      · obtain ⟨e, he, hb⟩ := Array.any_eq_true'.1 t
        simp only [Bool.and_eq_true, Bool.not_eq_true'] at hb
        exact ⟨e, he, hb.1.1, hb.1.2, hb.2⟩

theorem mk_first (h : ParP ops listed cs) {s : List Nat} {c : Nat} (hc : c < cs.length) : mkd cs s (chAt cs c).1 ↔ 1 ≤ s.getD c 2 := by
  constructor
  · rintro ⟨d, hd, ⟨h1, h2⟩ | ⟨_, h2⟩⟩
    · rw [h.inj c d hc hd (.inl h2.symm)]; exact h1
    · exact absurd h2.symm (h.ne c d hc hd)
  · intro h1; exact ⟨c, hc, .inl ⟨h1, rfl⟩⟩
theorem mk_second (h : ParP ops listed cs) {s : List Nat} {c : Nat} (hc : c < cs.length) : mkd cs s (chAt cs c).2 ↔ 2 ≤ s.getD c 2 := by
  constructor
  · rintro ⟨d, hd, ⟨_, h2⟩ | ⟨h1, h2⟩⟩
    · exact absurd h2 (h.ne d c hd hc)
    · rw [h.inj c d hc hd (.inr h2.symm)]; exact h1
  · intro h1; exact ⟨c, hc, .inr ⟨h1, rfl⟩⟩

/-- What is ready is the next one of some chain. -/
theorem ready_par (h : ParP ops listed cs) {L : Array Bool} {s : List Nat} (hL : Lst listed L cs s) (hs : s ∈ vecs cs.length) (hall : ¬ s.all (· == 2) = true) {i : Nat} (hi : i ∈ Region.ready .any ops L) : ∃ c, c < cs.length ∧ s.getD c 2 < 2 ∧ i = opAt cs c (s.getD c 2) := by
  obtain ⟨hun, o, ho, hdep⟩ := mem_ready.1 hi
  obtain ⟨hlt, hf⟩ := getD_bools.1 hun
  have hn : ¬ (listed.getD i false = true ∨ mkd cs s i) := fun e => by rw [(hL.at' i hlt).2 e] at hf; cases hf
  have hl0 : listed.getD i true = false := getD_bools.2 ⟨by rw [← hL.size]; exact hlt, by cases hx : listed.getD i false with | false => rfl | true => exact absurd (.inl hx) hn⟩
  have hle : ∀ c, c < cs.length → s.getD c 2 ≤ 2 := fun c hc => by
    have h1 := (mem_vecs _ _).1 hs
    have : s.getD c 2 = s[c]'(by omega) := by simp [List.getD_eq_getElem?_getD, h1.1, hc]
    rw [this]; exact h1.2 _ (List.getElem_mem _)
  by_cases hin : inCh cs i = true
  · obtain ⟨c, hc, e⟩ := inCh_iff.1 hin
    rcases e with rfl | rfl
    · have : ¬ 1 ≤ s.getD c 2 := fun e => hn (.inr ((mk_first h hc).2 e))
      exact ⟨c, hc, by omega, by unfold opAt; rw [if_pos (by omega)]⟩
    · have h2 : ¬ 2 ≤ s.getD c 2 := fun e => hn (.inr ((mk_second h hc).2 e))
      obtain ⟨o', ho', _, e, he, hb, hon⟩ := h.second c hc
      rw [ho] at ho'
      obtain rfl := Option.some.inj ho'
      have h3 := hdep e he hb
      rw [hon] at h3
      have h4 := (hL.at' _ (getD_lt h3)).1 h3
      rcases h4 with h4 | h4
      · have := (getD_bools.1 (h.free c hc).1).2
        rw [h4] at this; cases this
      · have := (mk_first h hc).1 h4
        exact ⟨c, hc, by omega, by unfold opAt; rw [if_neg (by omega)]⟩
  · obtain ⟨o', ho', hw⟩ := h.other i (by rw [← h.size, ← hL.size]; exact hlt) hl0 (by simpa using hin)
    rw [ho] at ho'
    obtain rfl := Option.some.inj ho'
    rcases hw with hw | ⟨e, he, hb, h1, h2⟩
    · exfalso
      refine hall (List.all_eq_true.2 fun x hx => ?_)
      obtain ⟨c, hc, rfl⟩ := List.mem_iff_getElem.1 hx
      have hc' : c < cs.length := by rw [← ((mem_vecs _ _).1 hs).1]; exact hc
      obtain ⟨e, he, hb, hon⟩ := hw c hc'
      have h3 := hdep e he hb
      rw [hon] at h3
      rcases (hL.at' _ (getD_lt h3)).1 h3 with h4 | h4
      · have := (getD_bools.1 (h.free c hc').2).2
        rw [h4] at this; cases this
      · have h5 := (mk_second h hc').1 h4
        have h6 := hle c hc'
        have : s.getD c 2 = s[c] := by simp [List.getD_eq_getElem?_getD, hc]
        simp only [beq_iff_eq]
        omega
    · exfalso
      have h3 := hdep e he hb
      rcases (hL.at' _ (getD_lt h3)).1 h3 with h4 | ⟨c, hc, h4⟩
      · have := (getD_bools.1 h1).2
        rw [h4] at this; cases this
      · have : inCh cs e.on = true := inCh_iff.2 ⟨c, hc, h4.imp And.right And.right⟩
        rw [h2] at this; cases this

/-- As long as a chain is not through, something is ready. -/
theorem ready_some (h : ParP ops listed cs) {L : Array Bool} {s : List Nat} (hL : Lst listed L cs s) {c : Nat} (hc : c < cs.length) (hlt : s.getD c 2 < 2) (hbef : ∀ d, d < c → 2 ≤ s.getD d 2) : opAt cs c (s.getD c 2) ∈ Region.ready .any ops L := by
  rw [mem_ready]
  obtain ⟨f1, f2⟩ := h.free c hc
  obtain ⟨l1, z1⟩ := getD_bools.1 f1
  obtain ⟨l2, z2⟩ := getD_bools.1 f2
  have old : ∀ k, listed.getD k false = true → L.getD k false = true := fun k hk => (hL.at' k (by rw [hL.size]; exact getD_lt hk)).2 (.inl hk)
  unfold opAt
  split
  · rename_i h0
    obtain ⟨o, ho, hd⟩ := h.first c hc
    refine ⟨getD_bools.2 ⟨by rw [hL.size]; exact l1, ?_⟩, o, ho, fun e he hb => old _ (hd e he hb)⟩
    cases hx : L.getD (chAt cs c).1 false
    · rfl
    · rcases (hL.at' _ (by rw [hL.size]; exact l1)).1 hx with e | e
      · rw [z1] at e; cases e
      · have := (mk_first h hc).1 e; omega
  · rename_i h0
    obtain ⟨o, ho, hd, _⟩ := h.second c hc
    refine ⟨getD_bools.2 ⟨by rw [hL.size]; exact l2, ?_⟩, o, ho, fun e he hb => ?_⟩
    · cases hx : L.getD (chAt cs c).2 false
      · rfl
      · rcases (hL.at' _ (by rw [hL.size]; exact l2)).1 hx with e | e
        · rw [z2] at e; cases e
        · have := (mk_second h hc).1 e; omega
    · rcases hd e he hb with e' | e' | ⟨d, hd', e'⟩
      · exact old _ e'
      · rw [e']
        exact (hL.at' _ (by rw [hL.size]; exact l1)).2 (.inr ((mk_first h hc).2 (by omega)))
      · rw [e']
        have hdl : d < cs.length := by omega
        exact (hL.at' _ (by rw [hL.size]; exact (getD_bools.1 (h.free d hdl).2).1)).2 (.inr ((mk_second h hdl).2 (hbef d hd')))

theorem getD_set_iff {L : Array Bool} {i j : Nat} (hj : j < L.size) : (L.setIfInBounds i true).getD j false = true ↔ j = i ∨ L.getD j false = true := by
  simp only [Array.getD_eq_getD_getElem?, Array.getElem?_setIfInBounds]
  by_cases h : i = j
  · subst h; simp [hj]
  · simp [h, Ne.symm h]

/-- A chain goes on. -/
theorem Lst.step (h : ParP ops listed cs) {L : Array Bool} {s : List Nat} (hL : Lst listed L cs s) (hs : s ∈ vecs cs.length) {c : Nat} (hc : c < cs.length) (hlt : s.getD c 2 < 2) : Lst listed (L.setIfInBounds (opAt cs c (s.getD c 2)) true) cs (s.set c (s.getD c 2 + 1)) := by
  have hsl := ((mem_vecs _ _).1 hs).1
  have hget : ∀ d, (s.set c (s.getD c 2 + 1)).getD d 2 = if d = c then s.getD c 2 + 1 else s.getD d 2 := by
    intro d
    simp only [List.getD_eq_getElem?_getD, List.getElem?_set]
    by_cases e : c = d
    · subst e; simp [hsl, hc]
    · simp [e, Ne.symm e]
  refine ⟨by simp [hL.size], fun j hj => ?_⟩
  have hj' : j < L.size := by simpa using hj
  rw [getD_set_iff hj', hL.at' j hj']
  have key : mkd cs (s.set c (s.getD c 2 + 1)) j ↔ j = opAt cs c (s.getD c 2) ∨ mkd cs s j := by
    constructor
    · rintro ⟨d, hd, e⟩
      rw [hget d] at e
      by_cases hdc : d = c
      · subst hdc
        rw [if_pos rfl] at e
        rcases e with ⟨_, e⟩ | ⟨e0, e⟩
        · by_cases hz : s.getD d 2 = 0
          · left; unfold opAt; rw [if_pos hz]; exact e.symm
          · right; exact ⟨d, hd, .inl ⟨by omega, e⟩⟩
        · left; unfold opAt; rw [if_neg (by omega)]; exact e.symm
      · rw [if_neg hdc] at e
        exact .inr ⟨d, hd, e⟩
    · rintro (e | ⟨d, hd, e⟩)
      · refine ⟨c, hc, ?_⟩
        rw [hget c, if_pos rfl]
        unfold opAt at e
        split at e
        · exact .inl ⟨by omega, e.symm⟩
        · exact .inr ⟨by omega, e.symm⟩
      · refine ⟨d, hd, ?_⟩
        rw [hget d]
        by_cases hdc : d = c
        · subst hdc
          rw [if_pos rfl]
          exact e.imp (fun t => ⟨by omega, t.2⟩) (fun t => ⟨by omega, t.2⟩)
        · rw [if_neg hdc]; exact e
  rw [key]
  constructor
  · rintro (e | e | e)
    · exact .inr (.inl e)
    · exact .inl e
    · exact .inr (.inr e)
  · rintro (e | e | e)
    · exact .inr (.inl e)
    · exact .inl e
    · exact .inr (.inr e)

theorem marks_size : ∀ (ord : List Nat) (l : Array Bool), (marks ord l).size = l.size
  | [], _ => rfl
  | i :: ord, l => by
    show (marks ord (l.setIfInBounds i true)).size = _
    rw [marks_size ord]; simp
theorem marks_iff : ∀ (ord : List Nat) (l : Array Bool) (j : Nat), j < l.size → ((marks ord l).getD j false = true ↔ j ∈ ord ∨ l.getD j false = true)
  | [], l, j, hj => by simp [marks]
  | i :: ord, l, j, hj => by
    show (marks ord (l.setIfInBounds i true)).getD j false = true ↔ _
    rw [marks_iff ord _ j (by simpa using hj), getD_set_iff hj, List.mem_cons]
    constructor
    · rintro (e | e | e)
      · exact .inl (.inr e)
      · exact .inl (.inl e)
      · exact .inr e
    · rintro ((e | e) | e)
      · exact .inr (.inl e)
      · exact .inl e
      · exact .inr (.inr e)

/-- All chains through. -/
theorem Lst.all {L : Array Bool} {s : List Nat} (hL : Lst listed L cs s) (hs : s ∈ vecs cs.length) (hall : s.all (· == 2) = true) : L = marks (cs.flatMap fun c => [c.1, c.2]) listed := by
  have hsl := ((mem_vecs _ _).1 hs).1
  have h2 : ∀ c, c < cs.length → s.getD c 2 = 2 := fun c hc => by
    have := List.all_eq_true.1 hall (s[c]'(by omega)) (List.getElem_mem _)
    simp only [beq_iff_eq] at this
    simp [List.getD_eq_getElem?_getD, show c < s.length by omega, this]
  refine Array.ext (by rw [marks_size, hL.size]) fun j h1 h2' => ?_
  have e1 : L[j] = L.getD j false := by simp [Array.getD_eq_getD_getElem?, h1]
  have e2 : (marks (cs.flatMap fun c => [c.1, c.2]) listed)[j] = (marks (cs.flatMap fun c => [c.1, c.2]) listed).getD j false := by simp [Array.getD_eq_getD_getElem?, h2']
  rw [e1, e2, Bool.eq_iff_iff, hL.at' j h1, marks_iff _ _ _ (by rw [← hL.size]; exact h1)]
  have : mkd cs s j ↔ j ∈ cs.flatMap fun c => [c.1, c.2] := by
    rw [List.mem_flatMap]
    constructor
    · rintro ⟨c, hc, e⟩
      refine ⟨cs[c], List.getElem_mem _, ?_⟩
      have e' : chAt cs c = cs[c] := by simp [chAt, List.getD_eq_getElem?_getD, hc]
      rw [e'] at e
      rcases e with ⟨_, e⟩ | ⟨_, e⟩ <;> simp [e]
    · rintro ⟨x, hx, e⟩
      obtain ⟨c, hc, rfl⟩ := List.mem_iff_getElem.1 hx
      have e' : chAt cs c = cs[c] := by simp [chAt, List.getD_eq_getElem?_getD, hc]
      simp only [List.mem_cons, List.not_mem_nil, or_false] at e
      refine ⟨c, hc, ?_⟩
      rw [h2 c hc, e']
      rcases e with e | e
      · exact .inl ⟨by decide, e.symm⟩
      · exact .inr ⟨by decide, e.symm⟩
  rw [this]
  exact Or.comm
end

def rem (s : List Nat) : Nat := (s.map (2 - ·)).sum
theorem rem_set : ∀ (s : List Nat) (c : Nat), s.getD c 2 < 2 → rem (s.set c (s.getD c 2 + 1)) + 1 = rem s
  | [], c, h => by simp at h
  | x :: s, 0, h => by simp [rem] at h ⊢; omega
  | x :: s, c + 1, h => by
    have := rem_set s c (by simpa using h)
    simp [rem] at this ⊢
    omega
theorem rem_zero {s : List Nat} (h : ∀ x ∈ s, x ≤ 2) (h0 : rem s = 0) : s.all (· == 2) = true := by
  induction s with
  | nil => rfl
  | cons x s ih =>
    simp [rem] at h0
    have hx := h x (by simp)
    have := ih (fun y hy => h y (by simp [hy])) h0.2
    simp only [List.all_cons, this, Bool.and_true, beq_iff_eq]
    omega

/-- Chains of two operations, side by side, in any order: an invariant over how far each has come. -/
theorem wpX_par {Q : Act → World → Prop} {fuel : Nat} {listed : Array Bool} (cs : List (Nat × Nat)) (hB : ParP ops listed cs) (J : List Nat → Act → World → Prop)
    (hstep : ∀ s a w c, s ∈ vecs cs.length → c < cs.length → s.getD c 2 < 2 → J s a w → opX P ops S kd (opAt cs c (s.getD c 2)) (fun a' w' => J (s.set c (s.getD c 2 + 1)) a' w') a w)
    (hend : ∀ s a w, s ∈ vecs cs.length → s.all (· == 2) = true → J s a w → wpX P ops S kd Q fuel (marks (cs.flatMap fun c => [c.1, c.2]) listed) a w) :
    ∀ (r : Nat) (s : List Nat) (L : Array Bool) (a : Act) (w : World), s ∈ vecs cs.length → Lst listed L cs s → rem s = r → J s a w → wpX P ops S kd Q (r + fuel) L a w
  | 0, s, L, a, w, hs, hL, hr, hJ => by
    rw [Nat.zero_add]
    have hall := rem_zero ((mem_vecs _ _).1 hs).2 hr
    rw [hL.all hs hall]
    exact hend s a w hs hall hJ
  | r + 1, s, L, a, w, hs, hL, hr, hJ => by
    have h0 : ¬ s.all (· == 2) = true := by
      intro h
      have : rem s = 0 := by
        unfold rem
        rw [List.sum_eq_zero_iff_forall_eq_nat]
        intro x hx
        obtain ⟨y, hy, rfl⟩ := List.mem_map.1 hx
        have := List.all_eq_true.1 h y hy
        simp at this
        omega
      omega
    rw [show r + 1 + fuel = (r + fuel) + 1 by omega]
    refine ⟨fun h => ?_, fun i hi => ?_⟩
    · exfalso
      refine h0 (List.all_eq_true.2 fun x hx => ?_)
      obtain ⟨c, hc, rfl⟩ := List.mem_iff_getElem.1 hx
      have h1 := (mem_vecs _ _).1 hs
      have hx2 := h1.2 _ hx
      have hg : s.getD c 2 = s[c] := by simp [List.getD_eq_getElem?_getD, hc]
      have key : ∀ c, c < cs.length → 2 ≤ s.getD c 2 := by
        intro c
        refine Nat.strongRecOn c fun c ih hc => ?_
        by_cases hlt : s.getD c 2 < 2
        · have := ready_some hB hL hc hlt (fun d hd => ih d hd (by omega))
          rw [h] at this
          cases this
        · omega
      have := key c (by omega)
      simp only [beq_iff_eq]; omega
    · obtain ⟨c, hc, hlt, rfl⟩ := ready_par hB hL hs h0 hi
      have hs' : s.set c (s.getD c 2 + 1) ∈ vecs cs.length := by
        rw [mem_vecs] at hs ⊢
        refine ⟨by rw [List.length_set]; exact hs.1, fun x hx => ?_⟩
        rcases List.mem_or_eq_of_mem_set hx with hx | rfl
        · exact hs.2 x hx
        · omega
      exact opX_mono (fun a' w' h => wpX_par cs hB J hstep hend r _ _ a' w' hs' (hL.step hB hs hc hlt) (by have := rem_set s c hlt; omega) h) (hstep s a w c hs hc hlt hJ)

/-- Values put into slots. -/
def putL (a : Act) : List (Tmp × Value) → Act
  | [] => a
  | x :: l => (putL a l).put (some x.1) x.2
theorem putL_set {a : Act} : ∀ (l : List (Tmp × Value)) (i : Nat) (d : Tmp) (u v : Value), l[i]? = some (d, u) → (l.map Prod.fst).Nodup → (putL a l).put (some d) v = putL a (l.set i (d, v))
  | [], i, d, u, v, h, _ => by simp at h
  | x :: l, 0, d, u, v, h, _ => by
    simp at h
    subst h
    show ((putL a l).put (some d) u).put (some d) v = (putL a l).put (some d) v
    simp [Act.put]
  | x :: l, i + 1, d, u, v, h, hn => by
    simp at h
    simp only [List.map_cons, List.nodup_cons] at hn
    have hne : x.1 ≠ d := fun e => hn.1 (by rw [e]; exact List.mem_map.2 ⟨(d, u), List.mem_of_getElem? h, rfl⟩)
    show ((putL a l).put (some x.1) x.2).put (some d) v = (putL a (l.set i (d, v))).put (some x.1) x.2
    rw [← putL_set l i d u v h hn.2, Act.put_comm _ _ _ (fun d' h1 h2 => hne (by injection h1 with h1; injection h2 with h2; exact h1.trans h2.symm))]
end

/-- An append of one value that a chain makes: where it stands, and what it appends to. -/
structure AppC where
  ib : Nat
  ia : Nat
  db : Tmp
  da : Tmp
  e : TypeId
  v : Value
  n : Nat
  xs : List Value
  y : Value

/-- What a chain holds. -/
def AppC.blk (c : AppC) (ub ua : Value) (st : Nat) (k : Nat) : Prop := (st < 2 ∧ c.v.ownBlock = some k) ∨ (st = 1 ∧ ub = .slice (some ⟨k, 0, none⟩) 1 1) ∨ (st = 2 ∧ ua.ownBlock = some k)
def AppC.holds (c : AppC) (B : Nat) (w : World) (ub ua : Value) (st : Nat) : Prop :=
  (st < 2 → w.ownsRow B c.e 1 c.v c.n c.xs) ∧ (st = 1 → ∃ k, ub = .slice (some ⟨k, 0, none⟩) 1 1 ∧ Blk w k c.e #[c.y]) ∧ (st = 2 → w.ownsRow B c.e 1 ua (c.n + 1) (c.xs ++ [c.y]))
theorem AppC.lt {c : AppC} {B : Nat} {w : World} {ub ua : Value} {st : Nat} (h : c.holds B w ub ua st) {k : Nat} (hk : c.blk ub ua st k) : k < w.heap.size := by
  obtain ⟨h1, h3, h4⟩ := h
  rcases hk with ⟨hs, hk⟩ | ⟨hs, hk⟩ | ⟨hs, hk⟩
  · exact ((h1 hs).lt k hk).2
  · obtain ⟨k', e, hb⟩ := h3 hs
    rw [hk] at e
    injection e with e
    injection e with e
    injection e with e
    rw [e]; exact hb.lt
  · exact ((h4 hs).lt k hk).2
theorem AppC.stays {c : AppC} {B : Nat} {w w' : World} {ub ua : Value} {st : Nat} {fp : Nat → Prop} (h : c.holds B w ub ua st) (ch : Ch fp w w') (hn : ∀ k, c.blk ub ua st k → ¬ fp k) : c.holds B w' ub ua st := by
  obtain ⟨h1, h3, h4⟩ := h
  refine ⟨fun hs => ch.own (h1 hs) fun k hk => hn k (.inl ⟨hs, hk⟩), fun hs => ?_, fun hs => ch.own (h4 hs) fun k hk => hn k (.inr (.inr ⟨hs, hk⟩))⟩
  obtain ⟨k, e, hb⟩ := h3 hs
  exact ⟨k, e, ch.blk hb (hn k (.inr (.inl ⟨hs, e⟩)))⟩

/-- All chains: UB, UA are what the slots hold. -/
structure AppJ (B : Nat) (cs : List AppC) (w0 w : World) (UB UA : Nat → Value) (s : Nat → Nat) : Prop where
  each : ∀ (i : Nat) (c : AppC), cs[i]? = some c → c.holds B w (UB i) (UA i) (s i)
  apart : ∀ (i j : Nat) (c d : AppC), cs[i]? = some c → cs[j]? = some d → i ≠ j → ∀ k, c.blk (UB i) (UA i) (s i) k → ¬ d.blk (UB j) (UA j) (s j) k
  ch : Ch (fun k => ∃ (i : Nat) (c : AppC), cs[i]? = some c ∧ c.v.ownBlock = some k) w0 w
  old : ∀ (i : Nat) (c : AppC), cs[i]? = some c → ∀ k, k < w0.heap.size → c.blk (UB i) (UA i) (s i) k → c.v.ownBlock = some k
  hB : B ≤ w0.heap.size

def upd (U : Nat → Value) (i : Nat) (v : Value) : Nat → Value := fun j => if j = i then v else U j
def updN (U : Nat → Nat) (i : Nat) (v : Nat) : Nat → Nat := fun j => if j = i then v else U j

/-- One chain goes on. -/
theorem AppJ.step {B : Nat} {cs : List AppC} {w0 w w' : World} {UB UA : Nat → Value} {s : Nat → Nat} (h : AppJ B cs w0 w UB UA s) {i : Nat} {c : AppC} (hi : cs[i]? = some c) (ub ua : Value) (st : Nat)
    (hc : c.holds B w' ub ua st) (hch : Ch (fun k => c.v.ownBlock = some k) w w') (hown : s i < 2) (hf : ∀ k, c.blk ub ua st k → c.blk (UB i) (UA i) (s i) k ∨ w.heap.size ≤ k) :
    AppJ B cs w0 w' (upd UB i ub) (upd UA i ua) (updN s i st) := by
  have other : ∀ j d, cs[j]? = some d → j ≠ i → d.holds B w' (UB j) (UA j) (s j) := fun j d hj hne =>
    AppC.stays (h.each j d hj) hch fun k hk hk' => h.apart i j c d hi hj (Ne.symm hne) k (.inl ⟨hown, hk'⟩) hk
  refine ⟨fun j d hj => ?_, fun j j' d d' hj hj' hne k hk hk' => ?_, h.ch.trans hch (fun k _ hk => ⟨i, c, hi, hk⟩), fun j d hj k hk hb => ?_, h.hB⟩
  · by_cases hji : j = i
    · subst hji
      rw [hi] at hj
      obtain rfl := Option.some.inj hj
      simpa [upd, updN] using hc
    · simpa [upd, updN, hji] using other j d hj hji
  · by_cases hji : j = i
    · subst hji
      rw [hi] at hj
      obtain rfl := Option.some.inj hj
      have hj'' : j' ≠ j := Ne.symm hne
      simp only [upd, updN, if_true, hj'', if_false] at hk hk'
      rcases hf k hk with e | e
      · exact h.apart j j' c d' hi hj' hne k e hk'
      · have := AppC.lt (h.each j' d' hj') hk'
        omega
    · by_cases hji' : j' = i
      · subst hji'
        rw [hi] at hj'
        obtain rfl := Option.some.inj hj'
        simp only [upd, updN, if_true, hji, if_false] at hk hk'
        rcases hf k hk' with e | e
        · exact h.apart j j' d c hj hi hne k hk e
        · have := AppC.lt (h.each j d hj) hk
          omega
      · simp only [upd, updN, hji, hji', if_false] at hk hk'
        exact h.apart j j' d d' hj hj' hne k hk hk'
  · by_cases hji : j = i
    · subst hji
      rw [hi] at hj
      obtain rfl := Option.some.inj hj
      simp only [upd, updN, if_true] at hb
      rcases hf k hb with e | e
      · exact h.old j c hi k hk e
      · have := h.ch.size; omega
    · simp only [upd, updN, hji, if_false] at hb
      exact h.old j d hj k hk hb

theorem AppJ.drewN {B : Nat} {cs : List AppC} {w0 w : World} {UB UA : Nat → Value} {s : Nat → Nat} (h : AppJ B cs w0 w UB UA s) (n : Nat) : AppJ B cs w0 (w.drewN n) UB UA s :=
  ⟨fun i c hi => AppC.stays (h.each i c hi) ((Ch.refl (fun _ => False) w).drewN n) (fun _ _ => id), h.apart, h.ch.drewN n, h.old, h.hB⟩

/-- The slots of the chains, from chain k on. -/
def slotsOf : List AppC → Nat → (Nat → Value) → (Nat → Value) → List (Tmp × Value)
  | [], _, _, _ => []
  | c :: cs, k, UB, UA => (c.db, UB k) :: (c.da, UA k) :: slotsOf cs (k + 1) UB UA
theorem slotsOf_fst : ∀ (cs : List AppC) (k : Nat) (UB UA : Nat → Value), (slotsOf cs k UB UA).map Prod.fst = cs.flatMap fun c => [c.db, c.da]
  | [], _, _, _ => rfl
  | c :: cs, k, UB, UA => by simp [slotsOf, slotsOf_fst cs (k + 1) UB UA]
theorem slotsOf_far : ∀ (cs : List AppC) (k : Nat) (UB UA UB' UA' : Nat → Value), (∀ j, k ≤ j → UB j = UB' j ∧ UA j = UA' j) → slotsOf cs k UB UA = slotsOf cs k UB' UA'
  | [], _, _, _, _, _, _ => rfl
  | c :: cs, k, UB, UA, UB', UA', h => by
    simp only [slotsOf]
    rw [slotsOf_far cs (k + 1) UB UA UB' UA' (fun j hj => h j (by omega)), (h k (Nat.le_refl _)).1, (h k (Nat.le_refl _)).2]
theorem slotsOf_b : ∀ (cs : List AppC) (k i : Nat) (c : AppC) (UB UA : Nat → Value) (v : Value), cs[i]? = some c →
    (slotsOf cs k UB UA)[2 * i]? = some (c.db, UB (k + i)) ∧ (slotsOf cs k UB UA).set (2 * i) (c.db, v) = slotsOf cs k (upd UB (k + i) v) UA
  | [], k, i, c, UB, UA, v, h => by simp at h
  | x :: cs, k, 0, c, UB, UA, v, h => by
    simp at h
    subst h
    refine ⟨rfl, ?_⟩
    simp only [slotsOf, Nat.mul_zero, List.set_cons_zero, Nat.add_zero]
    rw [slotsOf_far cs (k + 1) UB UA (upd UB k v) UA (fun j hj => ⟨by simp [upd, show j ≠ k by omega], rfl⟩)]
    simp [upd]
  | x :: cs, k, i + 1, c, UB, UA, v, h => by
    simp at h
    obtain ⟨h1, h2⟩ := slotsOf_b cs (k + 1) i c UB UA v h
    rw [show k + (i + 1) = k + 1 + i by omega]
    refine ⟨by rw [show 2 * (i + 1) = 2 * i + 1 + 1 by omega]; simpa [slotsOf] using h1, ?_⟩
    rw [show 2 * (i + 1) = 2 * i + 1 + 1 by omega]
    simp only [slotsOf, List.set_cons_succ, h2]
    simp [upd, show k ≠ k + 1 + i by omega]
theorem slotsOf_a : ∀ (cs : List AppC) (k i : Nat) (c : AppC) (UB UA : Nat → Value) (v : Value), cs[i]? = some c →
    (slotsOf cs k UB UA)[2 * i + 1]? = some (c.da, UA (k + i)) ∧ (slotsOf cs k UB UA).set (2 * i + 1) (c.da, v) = slotsOf cs k UB (upd UA (k + i) v)
  | [], k, i, c, UB, UA, v, h => by simp at h
  | x :: cs, k, 0, c, UB, UA, v, h => by
    simp at h
    subst h
    refine ⟨rfl, ?_⟩
    simp only [slotsOf, Nat.mul_zero, Nat.zero_add, List.set_cons_succ, List.set_cons_zero, Nat.add_zero]
    rw [slotsOf_far cs (k + 1) UB UA UB (upd UA k v) (fun j hj => ⟨rfl, by simp [upd, show j ≠ k by omega]⟩)]
    simp [upd]
  | x :: cs, k, i + 1, c, UB, UA, v, h => by
    simp at h
    obtain ⟨h1, h2⟩ := slotsOf_a cs (k + 1) i c UB UA v h
    rw [show k + (i + 1) = k + 1 + i by omega]
    refine ⟨by rw [show 2 * (i + 1) + 1 = 2 * i + 1 + 1 + 1 by omega]; simpa [slotsOf] using h1, ?_⟩
    rw [show 2 * (i + 1) + 1 = 2 * i + 1 + 1 + 1 by omega]
    simp only [slotsOf, List.set_cons_succ, h2]
    simp [upd, show k ≠ k + 1 + i by omega]

/-- An operand that none of these slots gives. -/
def farB (ds : List Tmp) : Operand → Bool
  | .tmp t => !ds.contains t
  | _ => true
theorem putL_far {a : Act} : ∀ (l : List (Tmp × Value)) (x : Operand), farB (l.map Prod.fst) x = true → (putL a l).eval x = a.eval x
  | [], x, _ => rfl
  | y :: l, x, h => by
    cases x with
    | tmp t =>
      simp only [farB, List.map_cons, List.contains_cons, Bool.not_eq_true', Bool.or_eq_false_iff, beq_eq_false_iff_ne] at h
      have ih := putL_far (a := a) l (.tmp t) (by simp only [farB, Bool.not_eq_true']; exact h.2)
      rw [← ih]
      show ((putL a l).tmps.setIfInBounds y.1 y.2).getD t undef = (putL a l).tmps.getD t undef
      simp only [Array.getD_eq_getD_getElem?, Array.getElem?_setIfInBounds, if_neg (Ne.symm h.1)]
    | const v => rfl
    | global g => rfl
    | func f => rfl
theorem putL_size {a : Act} : ∀ (l : List (Tmp × Value)), (putL a l).tmps.size = a.tmps.size
  | [] => rfl
  | y :: l => by
    show ((putL a l).tmps.setIfInBounds y.1 y.2).size = _
    rw [Array.size_setIfInBounds, putL_size l]
theorem putL_at {a : Act} : ∀ (l : List (Tmp × Value)) (i : Nat) (t : Tmp) (v : Value), l[i]? = some (t, v) → (l.map Prod.fst).Nodup → t < a.tmps.size → (putL a l).eval (.tmp t) = v
  | [], i, t, v, h, _, _ => by simp at h
  | y :: l, 0, t, v, h, _, hs => by
    simp at h
    subst h
    show ((putL a l).tmps.setIfInBounds t v).getD t undef = v
    have := putL_size (a := a) l
    simp [Array.getD_eq_getD_getElem?, this, hs]
  | y :: l, i + 1, t, v, h, hn, hs => by
    simp at h
    simp only [List.map_cons, List.nodup_cons] at hn
    have hne : y.1 ≠ t := fun e => hn.1 (by rw [e]; exact List.mem_map.2 ⟨(t, v), List.mem_of_getElem? h, rfl⟩)
    rw [← putL_at l i t v h hn.2 hs]
    show ((putL a l).tmps.setIfInBounds y.1 y.2).getD t undef = (putL a l).tmps.getD t undef
    simp only [Array.getD_eq_getD_getElem?, Array.getElem?_setIfInBounds, if_neg hne]
theorem putL_same {a : Act} : ∀ (l : List (Tmp × Value)), (∀ x ∈ l, a.tmps[x.1]? = some x.2) → putL a l = a
  | [], _ => rfl
  | y :: l, h => by
    show (putL a l).put (some y.1) y.2 = a
    rw [putL_same l (fun x hx => h x (by simp [hx]))]
    show ({ a with tmps := a.tmps.setIfInBounds y.1 y.2 } : Act) = a
    have h1 := h y (by simp)
    have : a.tmps.setIfInBounds y.1 y.2 = a.tmps := by
      apply Array.ext_getElem?
      intro i
      rw [Array.getElem?_setIfInBounds]
      split
      · rename_i e; subst e; rw [h1]; split <;> simp_all
      · rfl
    rw [this]

/-- What is known of the two operations of a chain. -/
structure AppOps (P : Program) (ops : Array Oper) (a0 : Act) (ds : List Tmp) (c : AppC) : Prop where
  build : ∃ o x T, ops[c.ib]? = some o ∧ o.guard = none ∧ o.dst = some c.db ∧ o.op = .buildSlice T 1 #[(0, x)] ∧ farB ds x = true ∧ a0.eval x = c.y ∧ ∀ w, (Instr.buildSlice T 1 #[(0, c.y)]).run P w = .ok (.slice (some ⟨w.heap.size, 0, none⟩) 1 1) (w.alloc (.cells #[c.y] c.e))
  app : ∃ o, ops[c.ia]? = some o ∧ o.guard = none ∧ o.dst = some c.da ∧ ∃ (s : Operand) (t : TypeId) (inf : TypeInfo) (z : Value) (bytes : Nat), o.op = .call { callee := .builtin .append, args := #[s, .tmp c.db], argTypes := #[t, t] } ∧ P.underlying t = some (.slice c.e) ∧ P.info? c.e = some inf ∧ inf.zero = some z ∧ inf.size = 1 ∧ inf.bytes = bytes ∧ z.cells.size = 1 ∧ (c.n + 1) * bytes ≤ 140737488355328 ∧
    farB ds s = true ∧ a0.eval s = c.v
  size : c.db < a0.tmps.size
  size' : c.da < a0.tmps.size
  one : c.y.oneCell' = true
  room : c.n + 1 ≤ maxLen

theorem mem_slotsOf : ∀ (cs : List AppC) (k : Nat) (UB UA : Nat → Value) (x : Tmp × Value), x ∈ slotsOf cs k UB UA → ∃ (i : Nat) (c : AppC), cs[i]? = some c ∧ (x = (c.db, UB (k + i)) ∨ x = (c.da, UA (k + i)))
  | [], _, _, _, _, h => by simp [slotsOf] at h
  | c :: cs, k, UB, UA, x, h => by
    simp only [slotsOf, List.mem_cons] at h
    rcases h with h | h | h
    · exact ⟨0, c, rfl, .inl h⟩
    · exact ⟨0, c, rfl, .inr h⟩
    · obtain ⟨i, c', hc, e⟩ := mem_slotsOf cs (k + 1) UB UA x h
      refine ⟨i + 1, c', by simpa using hc, ?_⟩
      rw [show k + (i + 1) = k + 1 + i by omega]; exact e
/-- What the slots hold ahead of the region. -/
def ub0 (cs : List AppC) (a0 : Act) (i : Nat) : Value := match cs[i]? with
  | some c => a0.tmps.getD c.db undef
  | none => undef
def ua0 (cs : List AppC) (a0 : Act) (i : Nat) : Value := match cs[i]? with
  | some c => a0.tmps.getD c.da undef
  | none => undef

/-- The appends of a region, side by side, in any order. -/
theorem wpX_apps {P : Program} {ops : Array Oper} {S : Nat → Prop} {kd : Nat → Nat} {Q : Act → World → Prop} {fuel : Nat} {listed : Array Bool} (B : Nat) (cs : List AppC) (a0 : Act) (w0 : World) (hB : parB ops listed (cs.map fun c => (c.ib, c.ia)) = true)
    (hkd : (cs.all fun c => kd c.ib == 3 && kd c.ia == 3) = true) (hS : ∀ k, S k → k < w0.heap.size ∧ ∀ (i : Nat) (c : AppC), cs[i]? = some c → c.v.ownBlock ≠ some k) (hnd : (cs.flatMap fun c => [c.db, c.da]).Nodup)
    (hops : ∀ (i : Nat) (c : AppC), cs[i]? = some c → AppOps P ops a0 (cs.flatMap fun c => [c.db, c.da]) c)
    (h0 : ∀ UB UA, AppJ B cs w0 w0 UB UA (fun _ => 0))
    (hend : ∀ s UB UA w, s ∈ vecs cs.length → s.all (· == 2) = true → AppJ B cs w0 w UB UA (fun _ => 2) → wpX P ops S kd Q fuel (marks (cs.flatMap fun c => [c.ib, c.ia]) listed) (putL a0 (slotsOf cs 0 UB UA)) w) :
    wpX P ops S kd Q (2 * cs.length + fuel) listed a0 w0 := by
  have hlen : (cs.map fun c => (c.ib, c.ia)).length = cs.length := by simp
  have hget : ∀ (s : List Nat) (i : Nat), i < s.length → s.getD i 2 = s.getD i 2 := fun _ _ _ => rfl
  have hrem : rem (List.replicate cs.length 0) = 2 * cs.length := by simp [rem]; omega
  have hfm : ((cs.map fun c => (c.ib, c.ia)).flatMap fun c => [c.1, c.2]) = cs.flatMap fun c => [c.ib, c.ia] := by rw [List.flatMap_map]
  have hL0 : Lst listed listed (cs.map fun c => (c.ib, c.ia)) (List.replicate cs.length 0) := by
    refine ⟨rfl, fun j hj => ⟨.inl, fun e => e.elim id ?_⟩⟩
    rintro ⟨c, hc, e⟩
    have hc' : c < cs.length := by simpa using hc
    have h0 : (List.replicate cs.length 0).getD c 2 = 0 := by simp [List.getD_eq_getElem?_getD, hc']
    rw [h0] at e
    rcases e with ⟨e, _⟩ | ⟨e, _⟩ <;> omega
  refine wpX_par (cs.map fun c => (c.ib, c.ia)) (parB_spec hB) (fun s a w => ∃ UB UA, a = putL a0 (slotsOf cs 0 UB UA) ∧ AppJ B cs w0 w UB UA (fun i => if i < cs.length then s.getD i 2 else 0)) ?_ ?_ (2 * cs.length) (List.replicate cs.length 0) listed a0 w0 ?_ hL0 hrem ?_
  · rintro s a w i hs hi hlt ⟨UB, UA, rfl, hJ⟩
    rw [hlen] at hi hs
    obtain ⟨c, hc⟩ : ∃ c, cs[i]? = some c := ⟨_, List.getElem?_eq_getElem hi⟩
    have hk := List.all_eq_true.1 hkd c (List.mem_of_getElem? hc)
    simp only [Bool.and_eq_true, beq_iff_eq] at hk
    have hsl : s.length = cs.length := ((mem_vecs _ _).1 hs).1
    have hgd : chAt (cs.map fun c => (c.ib, c.ia)) i = (c.ib, c.ia) := by simp [chAt, List.getD_eq_getElem?_getD, hc]
    have hn := hJ.each i c hc
    have hsi : (if i < cs.length then s.getD i 2 else 0) = s.getD i 2 := if_pos hi
    have hfun : ∀ t, (fun j => if j < cs.length then (s.set i t).getD j 2 else 0) = updN (fun j => if j < cs.length then s.getD j 2 else 0) i t := by
      intro t
      funext j
      by_cases hji : j = i
      · subst hji
        simp [updN, hi, hsl, List.getD_eq_getElem?_getD]
      · simp [updN, hji, List.getD_eq_getElem?_getD, List.getElem?_set, Ne.symm hji]
    have hO := hops i c hc
    rcases Nat.lt_or_ge (s.getD i 2) 1 with h1 | h1
    · have hz : s.getD i 2 = 0 := by omega
      rw [hz]
      rw [hsi, hz] at hn
      rw [show opAt (cs.map fun c => (c.ib, c.ia)) i 0 = c.ib by unfold opAt; rw [if_pos rfl, hgd]]
      obtain ⟨o, xo, T, ho, hg, hd, hop, hfar, hxy, hrun0⟩ := hO.build
      have hrun : ∀ W : World, (execOp (putL a0 (slotsOf cs 0 UB UA)).eval o).run P W = .ok (.value (.slice (some ⟨W.heap.size, 0, none⟩) 1 1)) (W.alloc (.cells #[c.y] c.e)) := by
        intro W
        have hx : (putL a0 (slotsOf cs 0 UB UA)).eval xo = c.y := (putL_far _ _ (by rw [slotsOf_fst]; exact hfar)).trans hxy
        simp [execOp, hop, hx, hrun0 W]
      refine .inr (.inl ⟨hk.1, ⟨o, ho⟩, fun n => ?_⟩)
      unfold wpOp
      simp only [ho, Region.wanted, hg, if_true]
      refine .inl ?_
      unfold Oper.wp
      rw [hrun (w.drewN n)]
      simp only [Oper.upon]
      have hJ' := hJ.drewN n
      obtain ⟨e1, e2⟩ := slotsOf_b cs 0 i c UB UA (.slice (some ⟨(w.drewN n).heap.size, 0, none⟩) 1 1) hc
      refine ⟨fun k hk => ((Ch.refl (fun _ => False) (w.drewN n)).alloc _).block k (Nat.lt_of_lt_of_le (hS k hk).1 hJ'.ch.size) id, upd UB i (.slice (some ⟨(w.drewN n).heap.size, 0, none⟩) 1 1), upd UA i (UA i), ?_, ?_⟩
      · rw [hd, putL_set _ _ _ _ _ e1 (by rw [slotsOf_fst]; exact hnd), e2, Nat.zero_add]
        congr 1
        refine slotsOf_far _ _ _ _ _ _ fun j _ => ⟨rfl, ?_⟩
        unfold upd; split
        · rename_i e; rw [e]
        · rfl
      · rw [hfun]
        refine hJ'.step hc _ _ _ ?_ ((Ch.refl _ _).alloc _) (by show (if i < cs.length then s.getD i 2 else 0) < 2; omega) ?_
        · have hn' := (hJ'.each i c hc)
          rw [hsi, hz] at hn'
          refine ⟨fun _ => ((Ch.refl (fun _ => False) (w.drewN n)).alloc _).own (hn'.1 (by decide)) (fun _ _ => id), fun _ => ⟨_, rfl, Blk.new _ _ _⟩, fun e => absurd e (by decide)⟩
        · intro k hk
          rcases hk with ⟨_, hk⟩ | ⟨_, hk⟩ | ⟨hs, _⟩
          · refine .inl (.inl ⟨?_, hk⟩)
            show (if i < cs.length then s.getD i 2 else 0) < 2
            omega
          · right
            injection hk with hk
            injection hk with hk
            injection hk with hk
            rw [← hk]
            exact Nat.le_refl _
          · cases hs
    · have hz : s.getD i 2 = 1 := by omega
      rw [hz]
      rw [hsi, hz] at hn
      rw [show opAt (cs.map fun c => (c.ib, c.ia)) i 1 = c.ia by unfold opAt; rw [if_neg (by decide), hgd]]
      obtain ⟨o, ho, hg, hd, sop, t, inf, z, bytes, hop, ht, hi1, hz1, hs1, hb1, hzs, hreach, hfar, hsv⟩ := hO.app
      have hev1 : (putL a0 (slotsOf cs 0 UB UA)).eval sop = c.v := (putL_far _ _ (by rw [slotsOf_fst]; exact hfar)).trans hsv
      have hev2 : (putL a0 (slotsOf cs 0 UB UA)).eval (.tmp c.db) = UB i := by
        obtain ⟨e1, _⟩ := slotsOf_b cs 0 i c UB UA undef hc
        rw [Nat.zero_add] at e1
        exact putL_at _ _ _ _ e1 (by rw [slotsOf_fst]; exact hnd) hO.size
      refine .inr (.inl ⟨hk.2, ⟨o, ho⟩, fun n => wpOp_of_list ho ?_⟩)
      have hJ' := hJ.drewN n
      have hn' := hJ'.each i c hc
      rw [hsi, hz] at hn'
      obtain ⟨k0, hub, hblk⟩ := hn'.2.1 rfl
      have hown := hn'.1 (by decide)
      refine wpList_app (w.drewN n) hg sop (.tmp c.db) t hop B c.e inf z 1 bytes ht hi1 hz1 hs1 hb1 hzs (by decide) c.v c.n c.xs hev1 hown ⟨k0, 0, none⟩ 1 1 [c.y] (hev2.trans hub) rfl ?_ ?_ (by decide) hO.room hreach (Nat.le_trans hJ.hB hJ'.ch.size) ?_
      · intro j u hu
        rw [addr_add0]
        exact (hblk.cell j).trans (by simpa using hu)
      · intro u hu; simp at hu; subst hu; exact hO.one
      · intro v' w' hown' hgrow hfresh
        obtain ⟨e1, e2⟩ := slotsOf_a cs 0 i c UB UA v' hc
        refine ⟨fun k hk => hgrow.block k (Nat.lt_of_lt_of_le (hS k hk).1 hJ'.ch.size) (fun e => (hS k hk).2 i c hc e.symm), upd UB i (UB i), upd UA i v', ?_, ?_⟩
        · rw [hd, putL_set _ _ _ _ _ e1 (by rw [slotsOf_fst]; exact hnd), e2, Nat.zero_add]
          congr 1
          refine slotsOf_far _ _ _ _ _ _ fun j _ => ⟨?_, rfl⟩
          unfold upd; split
          · rename_i e; rw [e]
          · rfl
        · rw [hfun]
          refine hJ'.step hc _ _ _ ?_ ((Ch.refl _ _).grown hgrow (fun k hk _ => hk)) (by show (if i < cs.length then s.getD i 2 else 0) < 2; omega) ?_
          · exact ⟨fun e => absurd e (by decide), fun e => absurd e (by decide), fun _ => hown'⟩
          · intro k hk
            rcases hk with ⟨hs, _⟩ | ⟨hs, _⟩ | ⟨_, hk⟩
            · exact absurd hs (by decide)
            · cases hs
            · rcases hfresh with e | e
              · left; left
                refine ⟨?_, by rw [← e]; exact hk⟩
                show (if i < cs.length then s.getD i 2 else 0) < 2
                omega
              · exact .inr (e k hk)
  · rintro s a w hs hall ⟨UB, UA, rfl, hJ⟩
    rw [hlen] at hs
    rw [hfm]
    refine hend s UB UA w hs hall ?_
    have hsl : s.length = cs.length := ((mem_vecs _ _).1 hs).1
    have h2 : ∀ i, i < cs.length → s.getD i 2 = 2 := by
      intro i hi
      have := List.all_eq_true.1 hall (s[i]'(by omega)) (List.getElem_mem _)
      simp only [beq_iff_eq] at this
      simp [List.getD_eq_getElem?_getD, List.getElem?_eq_getElem (show i < s.length by omega), this]
    have hlt : ∀ i c, cs[i]? = some c → i < cs.length := fun i c h => (List.getElem?_eq_some_iff.1 h).1
    have hsi : ∀ i c, cs[i]? = some c → (if i < cs.length then s.getD i 2 else 0) = 2 := fun i c h => by rw [if_pos (hlt i c h), h2 i (hlt i c h)]
    exact ⟨fun i c h => by have := hJ.each i c h; rw [hsi i c h] at this; exact this, fun i j c d hc hd hne k hk hk' => by
        have := hJ.apart i j c d hc hd hne k
        rw [hsi i c hc, hsi j d hd] at this
        exact this hk hk', hJ.ch, fun i c hc k hk hb => by
        have := hJ.old i c hc k hk
        rw [hsi i c hc] at this
        exact this hb, hJ.hB⟩
  · rw [hlen, mem_vecs]
    exact ⟨by simp, fun x hx => by rw [(List.mem_replicate.1 hx).2]; decide⟩
  · have ha : putL a0 (slotsOf cs 0 (ub0 cs a0) (ua0 cs a0)) = a0 := by
      refine putL_same _ fun x hx => ?_
      obtain ⟨i, c, hc, e⟩ := mem_slotsOf _ _ _ _ _ hx
      have hO := hops i c hc
      rw [Nat.zero_add] at e
      rcases e with rfl | rfl
      · have := hO.size
        simp [ub0, hc, Array.getD_eq_getD_getElem?, Array.getElem?_eq_getElem this]
      · have := hO.size'
        simp [ua0, hc, Array.getD_eq_getD_getElem?, Array.getElem?_eq_getElem this]
    refine ⟨ub0 cs a0, ua0 cs a0, ha.symm, ?_⟩
    have hs0 : ∀ i, (if i < cs.length then (List.replicate cs.length 0).getD i 2 else 0) = 0 := by
      intro i
      split
      · rename_i h; simp [List.getD_eq_getElem?_getD, List.getElem?_replicate, h]
      · rfl
    simp only [hs0]
    exact h0 _ _
end Go.Proofs.Ytpkjjlahmjijnaa.Mix
