/- Texts XFNewG, XPar for XChE, by trim.py. -/
import Derived.Test.YtefpabicgefciaaGreatDb23
import Derived.Test.YtefpabicgefciaaGreatDb22
import Derived.Test.YtefpabicgefciaaGreatDb06
import Derived.Test.YtefpabicgefciaaGreatDb01
namespace Go.Proofs.YtefpabicgefciaaGreat
open Go.RowKit
def fzero (p first n : Nat) : Array Value := #[.pointer (some ⟨p, 0, none⟩), .int .i64 first, .int .i64 n, .int .u64 0, .int .u64 0, .int .u64 0, .bool false, .bool false]
set_option linter.unusedVariables false
set_option linter.unusedSimpArgs false
open Classical in
/-- The error of New. -/
noncomputable def ferr (vs : List Int) (first n : Int) : Int :=
  if n < 1 ∨ 64 < n then 2 else if first < 0 ∨ (vs.length : Int) - 4 - n < first then 3 else if (∃ j : Nat, (j : Int) < 4 + n ∧ lk vs (first.toNat + j) ≠ 0) then 8 else 0
def FOut (k : Int) (w w' : World) (t : TypeId) (cs : Array Value) (e : Ending) : Prop :=
  Ch (fun _ => False) w w' ∧ ((k ≠ 0 ∧ e = .returned (.tuple #[.pointer none, .int .i64 k])) ∨ (k = 0 ∧ ∃ q, w.heap.size ≤ q ∧ e = .returned (.tuple #[.pointer (some ⟨q, 0, none⟩), .int .i64 0]) ∧ Blk w' q t cs))
theorem ferr_2 {vs : List Int} {first n : Int} (h : n < 1 ∨ 64 < n) : ferr vs first n = 2 := by unfold ferr; rw [if_pos h]
theorem ferr_3 {vs : List Int} {first n : Int} (h : ¬ (n < 1 ∨ 64 < n)) (h2 : first < 0 ∨ (vs.length : Int) - 4 - n < first) : ferr vs first n = 3 := by unfold ferr; rw [if_neg h, if_pos h2]
theorem ferr_8 {vs : List Int} {first n : Nat} (h : 1 ≤ n ∧ n ≤ 64) (h2 : first + 4 + n ≤ vs.length) (j : Nat) (hj : j < 4 + n) (hz : lk vs (first + j) ≠ 0) : ferr vs first n = 8 := by
  unfold ferr
  rw [if_neg (by omega), if_neg (by omega), if_pos ⟨j, by omega, by rw [Int.toNat_natCast]; exact hz⟩]
theorem ferr_0 {vs : List Int} {first n : Nat} (h : 1 ≤ n ∧ n ≤ 64) (h2 : first + 4 + n ≤ vs.length) (hz : ∀ j, j < 4 + n → lk vs (first + j) = 0) : ferr vs first n = 0 := by
  unfold ferr
  rw [if_neg (by omega), if_neg (by omega), if_neg]
  rintro ⟨j, hj, hb⟩
  rw [Int.toNat_natCast] at hb
  exact hb (hz j (by omega))
set_option maxRecDepth 100000 in
set_option maxHeartbeats 2000000 in
theorem fnew_any (B p cb : Nat) (lv : Value) (s : BS) (w : World) (first n : Int) (h : Bank B w p cb lv s.vs s.lg) (hLn : s.vs.length ≤ 4096) :
    Calls Tryz.prog 65 #[.pointer (some ⟨p, 0, none⟩), .int .i64 first, .int .i64 n] w fun e w' => FOut (ferr s.vs first n) w w' 206 (fzero p first.toNat n.toNat) e := by
  by_cases g1 : n < 1
  · have HQ := hid (ferr_2 (vs := s.vs) (first := first) (.inl g1))
    have d0 : decide (n < 1) = true := decide_eq_true g1
    go_enter Tryz.func65, Tryz.ntmps65
    go_wp2_with fail
    go_ret2
    exact ⟨Ch.refl _ _, .inl ⟨by rw [HQ.out]; decide, by rw [HQ.out]; rfl⟩⟩
  · by_cases g2 : 64 < n
    · have HQ := hid (ferr_2 (vs := s.vs) (first := first) (.inr g2))
      have d0 : decide (n < 1) = false := decide_eq_false g1
      have d1 : decide (64 < n) = true := decide_eq_true g2
      go_enter Tryz.func65, Tryz.ntmps65
      go_wp2_with fail
      go_ret2
      exact ⟨Ch.refl _ _, .inl ⟨by rw [HQ.out]; decide, by rw [HQ.out]; rfl⟩⟩
    · obtain ⟨n, rfl⟩ := Int.eq_ofNat_of_zero_le (show 0 ≤ n by omega)
      have d0 : decide ((n : Int) < 1) = false := decide_eq_false g1
      have d1 : decide ((64 : Int) < (n : Int)) = false := decide_eq_false g2
      by_cases g3 : first < 0
      · have HQ := hid (ferr_3 (vs := s.vs) (by omega : ¬ ((n : Int) < 1 ∨ 64 < (n : Int))) (.inl g3))
        have d2 : decide (first < 0) = true := decide_eq_true g3
        go_enter Tryz.func65, Tryz.ntmps65
        go_wp2_with fail
        refine (values_any B p cb lv s w h).mono ?_
        rintro e w1 ⟨gv, rfl, hval, hc1, hgv⟩
        go_wp2_with fail
        go_ret2
        exact ⟨hc1, .inl ⟨by rw [HQ.out]; decide, by rw [HQ.out]; rfl⟩⟩
      · have d2 : decide (first < 0) = false := decide_eq_false g3
        by_cases g4 : (s.vs.length : Int) - 4 - (n : Int) < first
        · have HQ := hid (ferr_3 (vs := s.vs) (by omega : ¬ ((n : Int) < 1 ∨ 64 < (n : Int))) (.inr g4))
          have d3 : decide ((s.vs.length : Int) - 4 - (n : Int) < first) = true := decide_eq_true g4
          go_enter Tryz.func65, Tryz.ntmps65
          go_wp2_with fail
          refine (values_any B p cb lv s w h).mono ?_
          rintro e w1 ⟨gv, rfl, hval, hc1, hgv⟩
          go_wp2_with fail
          go_ret2
          exact ⟨hc1, .inl ⟨by rw [HQ.out]; decide, by rw [HQ.out]; rfl⟩⟩
        · obtain ⟨first, rfl⟩ := Int.eq_ofNat_of_zero_le (show 0 ≤ first by omega)
          have d3 : decide ((s.vs.length : Int) - 4 - (n : Int) < (first : Int)) = false := decide_eq_false g4
          go_enter Tryz.func65, Tryz.ntmps65
          go_wp2_with fail
          refine (values_any B p cb lv s w h).mono ?_
          rintro e w1 ⟨gv, rfl, hval, hc1, hgv⟩
          go_wp2_with fail
          go_loop [10, 40] (fun _ i => ∃ j : Nat, j ≤ 4 + n ∧ i = .int .i64 j ∧ ∀ i, i < j → lk s.vs (first + i) = 0) (fun _ i => 4 + n - (intOf i).toNat)
          case atStart => exact ⟨0, Nat.zero_le _, rfl, fun i hi => absurd hi (Nat.not_lt_zero _)⟩
          case round =>
            obtain ⟨j, hj, rfl, hinv⟩ := hrel
            have Hinv := hid hinv
            clear hinv
            by_cases hlt : j < 4 + n
            · have hcell := (hval.cell (first + j)).trans (u64s_getD s.vs (first + j) (by omega))
              have d5 : decide (j < 4 + n) = true := by simpa using hlt
              obtain ⟨z, hz⟩ : ∃ z, z = lk s.vs (first + j) := ⟨_, rfl⟩
              rw [← hz] at hcell
              have Hz := hid hz
              clear hz
              by_cases hz0 : z = 0
              · subst hz0
                go_wp2_with fail
                go_round
                case rel => exact ⟨j + 1, by omega, by go_num, fun i hi => by
                  by_cases hij : i < j
                  · exact Hinv.out i hij
                  · have : i = j := by omega
                    subst this
                    exact Hz.out.symm⟩
                case measure => simp [intOf]; omega
              · have hzb : (z != 0) = true := by simpa using hz0
                have HQ := hid (ferr_8 (vs := s.vs) (first := first) (n := n) (by omega) (by omega) j hlt (by rw [← Hz.out]; exact hz0))
                go_wp2_with fail
                go_ret2
                exact ⟨hc1, .inl ⟨by rw [HQ.out]; decide, by rw [HQ.out]; rfl⟩⟩
            · have hjn : j = 4 + n := by omega
              have HQ := hid (ferr_0 (vs := s.vs) (first := first) (n := n) (by omega) (by omega) (fun i hi => Hinv.out i (by omega)))
              clear hjn
              go_wp2_with fail
              go_ret2
              exact ⟨hc1.alloc _, .inr ⟨HQ.out, _, hc1.size, rfl, Blk.new w1 _ (fzero p first n)⟩⟩
end Go.Proofs.YtefpabicgefciaaGreat
namespace Go.Proofs.YtefpabicgefciaaGreat.Mix
open Go
set_option linter.unusedSimpArgs false
set_option linter.unusedVariables false
section
variable {P : Program} {ops : Array Oper} {S : Nat → Prop} {kd : Nat → Nat}
/-- How far each chain of two operations has come: all ways. -/
def vecs : Nat → List (List Nat)
  | 0 => [[]]
  | m + 1 => (vecs m).flatMap fun s => [0 :: s, 1 :: s, 2 :: s]
theorem mem_vecs : ∀ (m : Nat) (s : List Nat), s ∈ vecs m ↔ s.length = m ∧ ∀ x ∈ s, x ≤ 2
  | 0, s => by
    simp only [vecs, List.mem_cons, List.not_mem_nil, or_false, List.length_eq_zero_iff]
    exact ⟨fun h => ⟨h, by subst h; simp⟩, fun h => h.1⟩
  | m + 1, s => by
    cases s with
    | nil => simp [vecs]
    | cons x s =>
      simp only [vecs, List.mem_flatMap, List.mem_cons, List.not_mem_nil, or_false, List.cons.injEq, List.length_cons, Nat.add_right_cancel_iff, forall_eq_or_imp]
      constructor
      · rintro ⟨t, ht, (⟨rfl, rfl⟩ | ⟨rfl, rfl⟩ | ⟨rfl, rfl⟩)⟩ <;> exact ⟨((mem_vecs m s).1 ht).1, by decide, ((mem_vecs m s).1 ht).2⟩
      · rintro ⟨h1, h2, h3⟩
        refine ⟨s, (mem_vecs m s).2 ⟨h1, h3⟩, ?_⟩
        have : x = 0 ∨ x = 1 ∨ x = 2 := by omega
        rcases this with rfl | rfl | rfl <;> simp
/-- Operation j belongs to chain c. -/
def chAt (cs : List (Nat × Nat)) (c : Nat) : Nat × Nat := cs.getD c (0, 0)
def opAt (cs : List (Nat × Nat)) (c s : Nat) : Nat := if s = 0 then (chAt cs c).1 else (chAt cs c).2
def inCh (cs : List (Nat × Nat)) (j : Nat) : Bool := cs.any fun c => c.1 == j || c.2 == j
/-- Which operations of the chains are listed. -/
def mkd (cs : List (Nat × Nat)) (s : List Nat) (j : Nat) : Prop := ∃ c, c < cs.length ∧ ((1 ≤ s.getD c 2 ∧ (chAt cs c).1 = j) ∨ (2 ≤ s.getD c 2 ∧ (chAt cs c).2 = j))
structure Lst (listed L : Array Bool) (cs : List (Nat × Nat)) (s : List Nat) : Prop where
  size : L.size = listed.size
  at' : ∀ j, j < L.size → (L.getD j false = true ↔ listed.getD j false = true ∨ mkd cs s j)
section
variable {listed : Array Bool} {cs : List (Nat × Nat)}
structure ParP (ops : Array Oper) (listed : Array Bool) (cs : List (Nat × Nat)) : Prop where
  size : listed.size = ops.size
  ne : ∀ c d, c < cs.length → d < cs.length → (chAt cs c).1 ≠ (chAt cs d).2
  inj : ∀ c d, c < cs.length → d < cs.length → (chAt cs c).1 = (chAt cs d).1 ∨ (chAt cs c).2 = (chAt cs d).2 → c = d
  free : ∀ c, c < cs.length → listed.getD (chAt cs c).1 true = false ∧ listed.getD (chAt cs c).2 true = false
  first : ∀ c, c < cs.length → ∃ o, ops[(chAt cs c).1]? = some o ∧ ∀ e ∈ o.after, Region.binds .any e = true → listed.getD e.on false = true
  second : ∀ c, c < cs.length → ∃ o, ops[(chAt cs c).2]? = some o ∧ (∀ e ∈ o.after, Region.binds .any e = true → listed.getD e.on false = true ∨ e.on = (chAt cs c).1 ∨ ∃ d, d < c ∧ e.on = (chAt cs d).2) ∧ ∃ e ∈ o.after, Region.binds .any e = true ∧ e.on = (chAt cs c).1
  other : ∀ j, j < ops.size → listed.getD j true = false → inCh cs j = false → ∃ o, ops[j]? = some o ∧ ((∀ c, c < cs.length → ∃ e ∈ o.after, Region.binds .any e = true ∧ e.on = (chAt cs c).2) ∨ ∃ e ∈ o.after, Region.binds .any e = true ∧ listed.getD e.on true = false ∧ inCh cs e.on = false)
theorem getD_set_iff {L : Array Bool} {i j : Nat} (hj : j < L.size) : (L.setIfInBounds i true).getD j false = true ↔ j = i ∨ L.getD j false = true := by
  simp only [Array.getD_eq_getD_getElem?, Array.getElem?_setIfInBounds]
  by_cases h : i = j
  · subst h; simp [hj]
  · simp [h, Ne.symm h]
/-- A chain goes on. -/
theorem Lst.step (h : ParP ops listed cs) {L : Array Bool} {s : List Nat} (hL : Lst listed L cs s) (hs : s ∈ vecs cs.length) {c : Nat} (hc : c < cs.length) (hlt : s.getD c 2 < 2) : Lst listed (L.setIfInBounds (opAt cs c (s.getD c 2)) true) cs (s.set c (s.getD c 2 + 1)) := by
  have hsl := ((mem_vecs _ _).1 hs).1
  have hget : ∀ d, (s.set c (s.getD c 2 + 1)).getD d 2 = if d = c then s.getD c 2 + 1 else s.getD d 2 := by
    intro d
    simp only [List.getD_eq_getElem?_getD, List.getElem?_set]
    by_cases e : c = d
    · subst e; simp [hsl, hc]
    · simp [e, Ne.symm e]
  refine ⟨by simp [hL.size], fun j hj => ?_⟩
  have hj' : j < L.size := by simpa using hj
  rw [getD_set_iff hj', hL.at' j hj']
  have key : mkd cs (s.set c (s.getD c 2 + 1)) j ↔ j = opAt cs c (s.getD c 2) ∨ mkd cs s j := by
    constructor
    · rintro ⟨d, hd, e⟩
      rw [hget d] at e
      by_cases hdc : d = c
      · subst hdc
        rw [if_pos rfl] at e
        rcases e with ⟨_, e⟩ | ⟨e0, e⟩
        · by_cases hz : s.getD d 2 = 0
          · left; unfold opAt; rw [if_pos hz]; exact e.symm
          · right; exact ⟨d, hd, .inl ⟨by omega, e⟩⟩
        · left; unfold opAt; rw [if_neg (by omega)]; exact e.symm
      · rw [if_neg hdc] at e
        exact .inr ⟨d, hd, e⟩
    · rintro (e | ⟨d, hd, e⟩)
      · refine ⟨c, hc, ?_⟩
        rw [hget c, if_pos rfl]
        unfold opAt at e
        split at e
        · exact .inl ⟨by omega, e.symm⟩
        · exact .inr ⟨by omega, e.symm⟩
      · refine ⟨d, hd, ?_⟩
        rw [hget d]
        by_cases hdc : d = c
        · subst hdc
          rw [if_pos rfl]
          exact e.imp (fun t => ⟨by omega, t.2⟩) (fun t => ⟨by omega, t.2⟩)
        · rw [if_neg hdc]; exact e
  rw [key]
  constructor
  · rintro (e | e | e)
    · exact .inr (.inl e)
    · exact .inl e
    · exact .inr (.inr e)
  · rintro (e | e | e)
    · exact .inr (.inl e)
    · exact .inl e
    · exact .inr (.inr e)
theorem marks_size : ∀ (ord : List Nat) (l : Array Bool), (marks ord l).size = l.size
  | [], _ => rfl
  | i :: ord, l => by
    show (marks ord (l.setIfInBounds i true)).size = _
    rw [marks_size ord]; simp
theorem marks_iff : ∀ (ord : List Nat) (l : Array Bool) (j : Nat), j < l.size → ((marks ord l).getD j false = true ↔ j ∈ ord ∨ l.getD j false = true)
  | [], l, j, hj => by simp [marks]
  | i :: ord, l, j, hj => by
    show (marks ord (l.setIfInBounds i true)).getD j false = true ↔ _
    rw [marks_iff ord _ j (by simpa using hj), getD_set_iff hj, List.mem_cons]
    constructor
    · rintro (e | e | e)
      · exact .inl (.inr e)
      · exact .inl (.inl e)
      · exact .inr e
    · rintro ((e | e) | e)
      · exact .inr (.inl e)
      · exact .inl e
      · exact .inr (.inr e)
/-- All chains through. -/
theorem Lst.all {L : Array Bool} {s : List Nat} (hL : Lst listed L cs s) (hs : s ∈ vecs cs.length) (hall : s.all (· == 2) = true) : L = marks (cs.flatMap fun c => [c.1, c.2]) listed := by
  have hsl := ((mem_vecs _ _).1 hs).1
  have h2 : ∀ c, c < cs.length → s.getD c 2 = 2 := fun c hc => by
    have := List.all_eq_true.1 hall (s[c]'(by omega)) (List.getElem_mem _)
    simp only [beq_iff_eq] at this
    simp [List.getD_eq_getElem?_getD, show c < s.length by omega, this]
  refine Array.ext (by rw [marks_size, hL.size]) fun j h1 h2' => ?_
  have e1 : L[j] = L.getD j false := by simp [Array.getD_eq_getD_getElem?, h1]
  have e2 : (marks (cs.flatMap fun c => [c.1, c.2]) listed)[j] = (marks (cs.flatMap fun c => [c.1, c.2]) listed).getD j false := by simp [Array.getD_eq_getD_getElem?, h2']
  rw [e1, e2, Bool.eq_iff_iff, hL.at' j h1, marks_iff _ _ _ (by rw [← hL.size]; exact h1)]
  have : mkd cs s j ↔ j ∈ cs.flatMap fun c => [c.1, c.2] := by
    rw [List.mem_flatMap]
    constructor
    · rintro ⟨c, hc, e⟩
      refine ⟨cs[c], List.getElem_mem _, ?_⟩
      have e' : chAt cs c = cs[c] := by simp [chAt, List.getD_eq_getElem?_getD, hc]
      rw [e'] at e
      rcases e with ⟨_, e⟩ | ⟨_, e⟩ <;> simp [e]
    · rintro ⟨x, hx, e⟩
      obtain ⟨c, hc, rfl⟩ := List.mem_iff_getElem.1 hx
      have e' : chAt cs c = cs[c] := by simp [chAt, List.getD_eq_getElem?_getD, hc]
      simp only [List.mem_cons, List.not_mem_nil, or_false] at e
      refine ⟨c, hc, ?_⟩
      rw [h2 c hc, e']
      rcases e with e | e
      · exact .inl ⟨by decide, e.symm⟩
      · exact .inr ⟨by decide, e.symm⟩
  rw [this]
  exact Or.comm
end
end
/-- An append of one value that a chain makes: where it stands, and what it appends to. -/
structure AppC where
  ib : Nat
  ia : Nat
  db : Tmp
  da : Tmp
  e : TypeId
  v : Value
  n : Nat
  xs : List Value
  y : Value
/-- What a chain holds. -/
def AppC.blk (c : AppC) (ub ua : Value) (st : Nat) (k : Nat) : Prop := (st < 2 ∧ c.v.ownBlock = some k) ∨ (st = 1 ∧ ub = .slice (some ⟨k, 0, none⟩) 1 1) ∨ (st = 2 ∧ ua.ownBlock = some k)
def AppC.holds (c : AppC) (B : Nat) (w : World) (ub ua : Value) (st : Nat) : Prop :=
  (st < 2 → w.ownsRow B c.e 1 c.v c.n c.xs) ∧ (st = 1 → ∃ k, ub = .slice (some ⟨k, 0, none⟩) 1 1 ∧ Blk w k c.e #[c.y]) ∧ (st = 2 → w.ownsRow B c.e 1 ua (c.n + 1) (c.xs ++ [c.y]))
theorem AppC.lt {c : AppC} {B : Nat} {w : World} {ub ua : Value} {st : Nat} (h : c.holds B w ub ua st) {k : Nat} (hk : c.blk ub ua st k) : k < w.heap.size := by
  obtain ⟨h1, h3, h4⟩ := h
  rcases hk with ⟨hs, hk⟩ | ⟨hs, hk⟩ | ⟨hs, hk⟩
  · exact ((h1 hs).lt k hk).2
  · obtain ⟨k', e, hb⟩ := h3 hs
    rw [hk] at e
    injection e with e
    injection e with e
    injection e with e
    rw [e]; exact hb.lt
  · exact ((h4 hs).lt k hk).2
theorem AppC.stays {c : AppC} {B : Nat} {w w' : World} {ub ua : Value} {st : Nat} {fp : Nat → Prop} (h : c.holds B w ub ua st) (ch : Ch fp w w') (hn : ∀ k, c.blk ub ua st k → ¬ fp k) : c.holds B w' ub ua st := by
  obtain ⟨h1, h3, h4⟩ := h
  refine ⟨fun hs => ch.own (h1 hs) fun k hk => hn k (.inl ⟨hs, hk⟩), fun hs => ?_, fun hs => ch.own (h4 hs) fun k hk => hn k (.inr (.inr ⟨hs, hk⟩))⟩
  obtain ⟨k, e, hb⟩ := h3 hs
  exact ⟨k, e, ch.blk hb (hn k (.inr (.inl ⟨hs, e⟩)))⟩
/-- All chains: UB, UA are what the slots hold. -/
structure AppJ (B : Nat) (cs : List AppC) (w0 w : World) (UB UA : Nat → Value) (s : Nat → Nat) : Prop where
  each : ∀ (i : Nat) (c : AppC), cs[i]? = some c → c.holds B w (UB i) (UA i) (s i)
  apart : ∀ (i j : Nat) (c d : AppC), cs[i]? = some c → cs[j]? = some d → i ≠ j → ∀ k, c.blk (UB i) (UA i) (s i) k → ¬ d.blk (UB j) (UA j) (s j) k
  ch : Ch (fun k => ∃ (i : Nat) (c : AppC), cs[i]? = some c ∧ c.v.ownBlock = some k) w0 w
  old : ∀ (i : Nat) (c : AppC), cs[i]? = some c → ∀ k, k < w0.heap.size → c.blk (UB i) (UA i) (s i) k → c.v.ownBlock = some k
  hB : B ≤ w0.heap.size
def upd (U : Nat → Value) (i : Nat) (v : Value) : Nat → Value := fun j => if j = i then v else U j
def updN (U : Nat → Nat) (i : Nat) (v : Nat) : Nat → Nat := fun j => if j = i then v else U j
/-- One chain goes on. -/
theorem AppJ.step {B : Nat} {cs : List AppC} {w0 w w' : World} {UB UA : Nat → Value} {s : Nat → Nat} (h : AppJ B cs w0 w UB UA s) {i : Nat} {c : AppC} (hi : cs[i]? = some c) (ub ua : Value) (st : Nat)
    (hc : c.holds B w' ub ua st) (hch : Ch (fun k => c.v.ownBlock = some k) w w') (hown : s i < 2) (hf : ∀ k, c.blk ub ua st k → c.blk (UB i) (UA i) (s i) k ∨ w.heap.size ≤ k) :
    AppJ B cs w0 w' (upd UB i ub) (upd UA i ua) (updN s i st) := by
  have other : ∀ j d, cs[j]? = some d → j ≠ i → d.holds B w' (UB j) (UA j) (s j) := fun j d hj hne =>
    AppC.stays (h.each j d hj) hch fun k hk hk' => h.apart i j c d hi hj (Ne.symm hne) k (.inl ⟨hown, hk'⟩) hk
  refine ⟨fun j d hj => ?_, fun j j' d d' hj hj' hne k hk hk' => ?_, h.ch.trans hch (fun k _ hk => ⟨i, c, hi, hk⟩), fun j d hj k hk hb => ?_, h.hB⟩
  · by_cases hji : j = i
    · subst hji
      rw [hi] at hj
      obtain rfl := Option.some.inj hj
      simpa [upd, updN] using hc
    · simpa [upd, updN, hji] using other j d hj hji
  · by_cases hji : j = i
    · subst hji
      rw [hi] at hj
      obtain rfl := Option.some.inj hj
      have hj'' : j' ≠ j := Ne.symm hne
      simp only [upd, updN, if_true, hj'', if_false] at hk hk'
      rcases hf k hk with e | e
      · exact h.apart j j' c d' hi hj' hne k e hk'
      · have := AppC.lt (h.each j' d' hj') hk'
        omega
    · by_cases hji' : j' = i
      · subst hji'
        rw [hi] at hj'
        obtain rfl := Option.some.inj hj'
        simp only [upd, updN, if_true, hji, if_false] at hk hk'
        rcases hf k hk' with e | e
        · exact h.apart j j' d c hj hi hne k hk e
        · have := AppC.lt (h.each j d hj) hk
          omega
      · simp only [upd, updN, hji, hji', if_false] at hk hk'
        exact h.apart j j' d d' hj hj' hne k hk hk'
  · by_cases hji : j = i
    · subst hji
      rw [hi] at hj
      obtain rfl := Option.some.inj hj
      simp only [upd, updN, if_true] at hb
      rcases hf k hb with e | e
      · exact h.old j c hi k hk e
      · have := h.ch.size; omega
    · simp only [upd, updN, hji, if_false] at hb
      exact h.old j d hj k hk hb
theorem AppJ.drewN {B : Nat} {cs : List AppC} {w0 w : World} {UB UA : Nat → Value} {s : Nat → Nat} (h : AppJ B cs w0 w UB UA s) (n : Nat) : AppJ B cs w0 (w.drewN n) UB UA s :=
  ⟨fun i c hi => AppC.stays (h.each i c hi) ((Ch.refl (fun _ => False) w).drewN n) (fun _ _ => id), h.apart, h.ch.drewN n, h.old, h.hB⟩
end Go.Proofs.YtefpabicgefciaaGreat.Mix
