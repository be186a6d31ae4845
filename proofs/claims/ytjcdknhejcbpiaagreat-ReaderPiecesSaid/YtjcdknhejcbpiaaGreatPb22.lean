/- Texts XRopeA, XRopeB, XStoA, XPar, XEv, XLcf for XPcs, by trim.py. -/
import Derived.Test.YtjcdknhejcbpiaaGreatPb21
import Derived.Test.YtjcdknhejcbpiaaGreatPb11
import Derived.Test.YtjcdknhejcbpiaaGreatPb10
import Derived.Test.YtjcdknhejcbpiaaGreatPb04
import Derived.Test.YtjcdknhejcbpiaaGreatPb02
namespace Go.Proofs.YtjcdknhejcbpiaaGreat
open Go.RowKit
set_option linter.unusedVariables false
set_option linter.unusedSimpArgs false
theorem fit_cnt (t : T) : ∀ h, T.fit h t → 4 * (t.cnt + 1) ≤ t.bytes := by
  induction t using T.ind with
  | hl s =>
    intro h hf
    obtain ⟨_, h1, h2⟩ := fit_leaf hf
    simp only [T.cnt, T.bytes]
    omega
  | hn k ks ih =>
    intro h hf
    obtain ⟨m, rfl, rfl, h1, h2, h3⟩ := fit_node hf
    have key : ∀ l : List T, (∀ t ∈ l, 4 * (t.cnt + 1) ≤ t.bytes) → 4 * (T.cntL l + l.length) ≤ T.bytesL l := by
      intro l
      induction l with
      | nil => intro _; simp [T.bytesL, T.cntL]
      | cons t ts ih' =>
        intro hl
        have a := ih' (fun t ht => hl t (by simp [ht]))
        have b := hl t (by simp)
        simp only [T.bytesL, T.cntL, List.length_cons]
        omega
    have := key ks (fun t ht => ih t ht m (h3 t ht))
    simp only [T.cnt, T.bytes]
    omega
theorem good_cnt {t : T} (hg : t.good) (hb : t.bytes ≤ 65536) : t.cnt ≤ 60000 := by
  rcases hg with ⟨s, rfl, _, _⟩ | ⟨h, _, hf⟩
  · simp [T.cnt]
  · have := fit_cnt t h hf
    omega
def rootZ : Value := .agg #[.int .u64 0, .int .i64 0, .int .i64 0, .int .i64 0, .int .i64 0]
/-- What New leaves of any text, in a new arena. -/
def RopeAny (A : ArA) (s : ByteArray) (w : World) (e : Ending) (w' : World) : Prop :=
  (s.size = 0 ∧ e = .returned (.tuple #[rootZ, .int .i64 0]) ∧ Ch (fun _ => False) w w') ∨
  (0 < s.size ∧ ∃ t, buildT s = [t] ∧ t.good ∧ t.bytes = s.size ∧ ((t.cnt ≤ A.n ∧ RopeOut A [] 0 t w e w') ∨ (A.n < t.cnt ∧ e = .returned (.tuple #[rootZ, .int .i64 6]) ∧ Ch (fun _ => False) w w')))
theorem rope_any (A : ArA) (s : ByteArray) (w : World) (h : ArM A w [] 0) (hs : s.size ≤ 65536) (hn : A.n ≤ 16384) : Calls Tryz.prog 47 #[.pointer (some ⟨A.ab, 0, none⟩), .string s] w (RopeAny A s w) := by
  by_cases h0 : s.size = 0
  · have hz : s = ⟨#[]⟩ := by
      cases s with
      | mk d =>
        have : d.size = 0 := h0
        rw [Array.size_eq_zero_iff] at this
        rw [this]
    subst hz
    exact (rope_zero A w h hn).mono fun e w' q => .inl ⟨rfl, q⟩
  · have hp : 0 < s.size := by omega
    obtain ⟨t, ht, hg, hb⟩ := build_good hp hs
    have hc := good_cnt hg (by omega)
    by_cases hr : t.cnt ≤ A.n
    · exact (rope_new A [] 0 s t w h ArP.nil hp hs ht hc (by simpa using hr) hn).mono fun e w' q => .inr ⟨hp, t, ht, hg, hb, .inl ⟨hr, q⟩⟩
    · exact (rope_no A [] 0 s t w h ArP.nil hp hs ht hc (by simp; omega) hn).mono fun e w' q => .inr ⟨hp, t, ht, hg, hb, .inr ⟨by omega, q⟩⟩
end Go.Proofs.YtjcdknhejcbpiaaGreat
namespace Go.Proofs.YtjcdknhejcbpiaaGreat
open Go.RowKit
set_option linter.unusedVariables false
set_option linter.unusedSimpArgs false
/-- The cells of a root. -/
structure Rt where
  a : Int
  h : Int
  b : Int
  r : Int
  l : Int
def Rt.v (x : Rt) : Value := .agg #[.int .u64 x.a, .int .i64 x.h, .int .i64 x.b, .int .i64 x.r, .int .i64 x.l]
/-- The root, the errno and the nodes of a text in a new arena of N slots. -/
def RopeRes (N : Nat) (s : ByteArray) (x : Rt) (en : Int) (ns : List An) : Prop :=
  (s.size = 0 ∧ x = ⟨0, 0, 0, 0, 0⟩ ∧ en = 0 ∧ ns = []) ∨
  (0 < s.size ∧ ∃ t, buildT s = [t] ∧ t.good ∧ t.bytes = s.size ∧
    ((t.cnt ≤ N ∧ x = ⟨hdl (t.cnt - 1), t.ht, t.meas.b, t.meas.r, t.meas.l⟩ ∧ en = 0 ∧ ns.length = t.cnt ∧ (∀ (j : Nat) (y : An), ns[j]? = some y → ∃ sp, (T.post 0 t)[j]? = some sp ∧ y.x = sp.nd 0 (T.post 0 t))) ∨
     (N < t.cnt ∧ x = ⟨0, 0, 0, 0, 0⟩ ∧ en = 6 ∧ ns = [])))
def RopeMem (A : ArA) (s : ByteArray) (x : Rt) (en : Int) (w w' : World) : Prop := ∃ ns, RopeRes A.n s x en ns ∧ ArM A w' ns 0 ∧ ArP ns ∧ Ch A.mut w w' ∧ ∀ y ∈ ns, ∀ b, y.kb b → w.heap.size ≤ b
theorem rope_mem (A : ArA) (s : ByteArray) (w : World) (h : ArM A w [] 0) (hs : s.size ≤ 65536) (hn : A.n ≤ 16384) : Calls Tryz.prog 47 #[.pointer (some ⟨A.ab, 0, none⟩), .string s] w fun e w' => ∃ x en, e = .returned (.tuple #[Rt.v x, .int .i64 en]) ∧ RopeMem A s x en w w' := by
  refine (rope_any A s w h hs hn).mono ?_
  rintro e w' (⟨h0, rfl, hc⟩ | ⟨h0, t, ht, hg, hb, ⟨h1, ys, rfl, hM, hP, hl, hy, hc, hk⟩ | ⟨h1, rfl, hc⟩⟩)
  · exact ⟨⟨0, 0, 0, 0, 0⟩, 0, rfl, [], .inl ⟨h0, rfl, rfl, rfl⟩, h.keep0 hc, ArP.nil, hc.mono (fun _ _ e => e.elim), fun y hy => by simp at hy⟩
  · refine ⟨⟨hdl (t.cnt - 1), t.ht, t.meas.b, t.meas.r, t.meas.l⟩, 0, by simp [Rt.v, T.rv], ys, .inr ⟨h0, t, ht, hg, hb, .inl ⟨h1, rfl, rfl, hl, fun j y hj => ?_⟩⟩, hM, hP, hc, hk⟩
    obtain ⟨sp, a, b⟩ := hy j y hj
    exact ⟨sp, a, b⟩
  · exact ⟨⟨0, 0, 0, 0, 0⟩, 6, rfl, [], .inr ⟨h0, t, ht, hg, hb, .inr ⟨h1, rfl, rfl, rfl⟩⟩, h.keep0 hc, ArP.nil, hc.mono (fun _ _ e => e.elim), fun y hy => by simp at hy⟩
theorem RopeMem.keep {A : ArA} {s : ByteArray} {x : Rt} {en : Int} {w w1 w2 : World} {fp : Nat → Prop} (h : RopeMem A s x en w w1) (c : Ch fp w1 w2) (hf : ∀ k, k < w1.heap.size → A.foot [] k → ¬ fp k) (hk : ∀ k, fp k → k < w.heap.size ∨ w1.heap.size ≤ k) (hn : ∀ k, k < w.heap.size → ¬ fp k) : RopeMem A s x en w w2 := by
  obtain ⟨ns, h1, h2, h3, h4, h5⟩ := h
  refine ⟨ns, h1, h2.keep c (fun k hk' hf' e => ?_), h3, h4.trans c (fun i hi e => absurd e (hn i hi)), h5⟩
  rcases hf' with hf' | hf' | hf' | ⟨y, hy, hf'⟩
  · exact hf k hk' (.inl hf') e
  · exact hf k hk' (.inr (.inl hf')) e
  · exact hf k hk' (.inr (.inr (.inl hf'))) e
  · have := h5 y hy k hf'
    rcases hk k e with e | e <;> omega
theorem RopeMem.shift {A : ArA} {s : ByteArray} {x : Rt} {en : Int} {w0 w w1 w2 : World} {fp : Nat → Prop} (h : RopeMem A s x en w w1) (c0 : Ch (fun _ => False) w0 w) (c : Ch fp w1 w2) (hf : ∀ k, k < w1.heap.size → A.foot [] k → ¬ fp k) (hk : ∀ k, fp k → k < w.heap.size ∨ w1.heap.size ≤ k) (hn : ∀ k, k < w0.heap.size → ¬ fp k) : RopeMem A s x en w0 w2 := by
  obtain ⟨ns, h1, h2, h3, h4, h5⟩ := h
  refine ⟨ns, h1, h2.keep c (fun k hk' hf' e => ?_), h3, ((c0.mono (fun _ _ e => e.elim)).trans h4 (fun _ _ e => e)).trans c (fun i hi e => absurd e (hn i hi)), fun y hy b hb => Nat.le_trans c0.size (h5 y hy b hb)⟩
  rcases hf' with hf' | hf' | hf' | ⟨y, hy, hf'⟩
  · exact hf k hk' (.inl hf') e
  · exact hf k hk' (.inr (.inl hf')) e
  · exact hf k hk' (.inr (.inr (.inl hf'))) e
  · have := h5 y hy k hf'
    rcases hk k e with e | e <;> omega
theorem RopeMem.ch {A : ArA} {s : ByteArray} {x : Rt} {en : Int} {w w1 : World} (h : RopeMem A s x en w w1) : Ch A.mut w w1 := by
  obtain ⟨ns, h1, h2, h3, h4, h5⟩ := h
  exact h4
end Go.Proofs.YtjcdknhejcbpiaaGreat
namespace Go.Proofs.YtjcdknhejcbpiaaGreat
open Go.RowKit
set_option linter.unusedVariables false
set_option linter.unusedSimpArgs false
set_option linter.unusedSectionVars false
/-- An operation; a result but for its delta. -/
structure OpV where
  k : Int
  sl : Int
  at' : Int
  n : Int
  id : Int
  g : Int
  s : ByteArray
def OpV.cells (x : OpV) : List Value := [.int .u8 x.k, .int .i64 x.sl, .int .i64 x.at', .int .i64 x.n, .int .u32 x.id, .int .u8 x.g, .string x.s]
def OpV.zero : OpV := ⟨0, 0, 0, 0, 0, 0, ⟨#[]⟩⟩
structure RsV where
  er : Int
  rev : Int
  sl : Int
  at' : Int
  g : Int
  s : ByteArray
  b : Int
  r : Int
  l : Int
  ik : Int
  fr : Int
  to : Int
def RsV.cells (x : RsV) (d : Value) : List Value := [.int .i64 x.er, .int .i64 x.rev, .int .i64 x.sl, .int .i64 x.at', .int .u8 x.g, .string x.s, .int .i64 x.b, .int .i64 x.r, .int .i64 x.l, .int .u8 x.ik, .int .i64 x.fr, .int .i64 x.to, d]
def RsV.zero : RsV := ⟨0, 0, 0, 0, 0, ⟨#[]⟩, 0, 0, 0, 0, 0, 0⟩
def opCells (l : List OpV) : List Value := l.flatMap OpV.cells
def rsCells (l : List (RsV × Value)) : List Value := l.flatMap fun x => x.1.cells x.2
/-- The cells of a store. -/
def stoCells (hd : List Value) (a b c d e f : Value) (rq : List OpV) (rp : List (RsV × Value)) : List Value := hd ++ ([a, b, c, d, e, f] ++ (opCells rq ++ rsCells rp))
theorem sto_zero : (Tryz.zeroCells125).toList.drop 24 = opCells (List.replicate 8 OpV.zero) ++ rsCells (List.replicate 8 (RsV.zero, .slice none 0 0)) := by kernel_rfl
theorem StC.sto {w : World} {sb : Nat} {hd : List Value} {a b c d e f : Value} {cs : Array Value} (h : StC w sb hd a b c d e f cs) (hl : hd.length = 18) :
    Blk w sb 125 (stoCells hd a b c d e f (List.replicate 8 OpV.zero) (List.replicate 8 (RsV.zero, .slice none 0 0))).toArray := by
  have e : cs = (stoCells hd a b c d e f (List.replicate 8 OpV.zero) (List.replicate 8 (RsV.zero, .slice none 0 0))).toArray := by
    apply Array.ext_getElem?
    intro k
    refine Eq.trans ?_ (List.getElem?_toArray (xs := stoCells hd a b c d e f (List.replicate 8 OpV.zero) (List.replicate 8 (RsV.zero, .slice none 0 0))) (i := k)).symm
    unfold stoCells
    by_cases h1 : k < 18
    · rw [h.h k h1, List.getElem?_append_left (by omega)]
    · rw [List.getElem?_append_right (by omega), hl]
      by_cases h2 : k < 24
      · rw [List.getElem?_append_left (by simp; omega)]
        obtain ⟨j, rfl⟩ : ∃ j, k = 18 + j := ⟨k - 18, by omega⟩
        rw [Nat.add_sub_cancel_left]
        match j, h2 with
        | 0, _ => exact h.c18
        | 1, _ => exact h.c19
        | 2, _ => exact h.c20
        | 3, _ => exact h.c21
        | 4, _ => exact h.c22
        | 5, _ => exact h.c23
        | j + 6, h => exact absurd h (by omega)
      · rw [List.getElem?_append_right (by simp; omega), h.z k (by omega), ← sto_zero, List.getElem?_drop, Array.getElem?_toList]
        congr 1
        simp
        omega
  rw [← e]
  exact h.blk
theorem sto_put (hd : List Value) (a b c d e f : Value) (rq : List OpV) (rp : List (RsV × Value)) (hl : hd.length = 18) (k : Nat) (x : Value) :
    (stoCells hd a b c d e f rq rp).toArray.setIfInBounds (18 + k) x = (hd ++ ([a, b, c, d, e, f] ++ (opCells rq ++ rsCells rp)).set k x).toArray := by
  rw [List.setIfInBounds_toArray]
  unfold stoCells
  rw [List.set_append_right _ _ (by omega), hl, Nat.add_sub_cancel_left]
theorem sto_put22 (hd : List Value) (a b c d e f : Value) (rq : List OpV) (rp : List (RsV × Value)) (hl : hd.length = 18) (x : Value) : (stoCells hd a b c d e f rq rp).toArray.setIfInBounds 22 x = (stoCells hd a b c d x f rq rp).toArray := sto_put hd a b c d e f rq rp hl 4 x
def bankR (B p cb : Nat) (lv : Value) (vs : List Int) (lg : List Acc) : Res where
  holds w := Bank B w p cb lv vs lg
  foot := FP p cb lv
  stable h c hn := h.ch c (hn _ (.inl rfl)) (hn _ (.inr (.inl rfl))) (fun k hk => hn k (.inr (.inr hk)))
  lt h k hk := by
    rcases hk with rfl | rfl | hk
    · exact h.hp.lt
    · exact h.hc.lt
    · exact (h.hl.lt k hk).2
def arR (A : ArA) (ns : List An) (st : Int) : Res where
  holds w := ArM A w ns st
  foot := A.foot ns
  stable h c hn := h.keep c (fun k _ hk => hn k hk)
  lt h k hk := h.foot_lt hk
/-- The feeds: where each lies, and its cells. -/
def fdsR (fds : List (Nat × Array Value)) : List Res := fds.map fun x => blkR x.1 202 x.2
def fdsV (fds : List (Nat × Array Value)) : List Value := fds.map fun x => .pointer (some ⟨x.1, 0, none⟩)
theorem ArM.noblk {A : ArA} {w : World} {ns : List An} {st : Int} (h : ArM A w ns st) {k : Nat} {t : TypeId} {cs : Array Value} (hb : Blk w k t cs) (h1 : t ≠ 164) (h2 : t ≠ 211) (h3 : t ≠ 213) (h4 : t ≠ 3) (h5 : t ≠ 54) (hk : ∀ y ∈ ns, ¬ y.kb k) : ¬ A.foot ns k := by
  rintro (e | rfl | rfl | ⟨y, hy, hyk⟩)
  · exact h.off hb h1 h2 h3 e
  · exact Blk.ne hb h.b0 h4 rfl
  · exact Blk.ne hb h.b2 h5 rfl
  · exact hk y hy hyk
end Go.Proofs.YtjcdknhejcbpiaaGreat
namespace Go.Proofs.YtjcdknhejcbpiaaGreat.Mix
open Go
set_option linter.unusedSimpArgs false
set_option linter.unusedVariables false
section
variable {P : Program} {ops : Array Oper} {S : Nat → Prop} {kd : Nat → Nat}
/-- How far each chain of two operations has come: all ways. -/
def vecs : Nat → List (List Nat)
  | 0 => [[]]
  | m + 1 => (vecs m).flatMap fun s => [0 :: s, 1 :: s, 2 :: s]
theorem mem_vecs : ∀ (m : Nat) (s : List Nat), s ∈ vecs m ↔ s.length = m ∧ ∀ x ∈ s, x ≤ 2
  | 0, s => by
    simp only [vecs, List.mem_cons, List.not_mem_nil, or_false, List.length_eq_zero_iff]
    exact ⟨fun h => ⟨h, by subst h; simp⟩, fun h => h.1⟩
  | m + 1, s => by
    cases s with
    | nil => simp [vecs]
    | cons x s =>
      simp only [vecs, List.mem_flatMap, List.mem_cons, List.not_mem_nil, or_false, List.cons.injEq, List.length_cons, Nat.add_right_cancel_iff, forall_eq_or_imp]
      constructor
      · rintro ⟨t, ht, (⟨rfl, rfl⟩ | ⟨rfl, rfl⟩ | ⟨rfl, rfl⟩)⟩ <;> exact ⟨((mem_vecs m s).1 ht).1, by decide, ((mem_vecs m s).1 ht).2⟩
      · rintro ⟨h1, h2, h3⟩
        refine ⟨s, (mem_vecs m s).2 ⟨h1, h3⟩, ?_⟩
        have : x = 0 ∨ x = 1 ∨ x = 2 := by omega
        rcases this with rfl | rfl | rfl <;> simp
/-- Operation j belongs to chain c. -/
def chAt (cs : List (Nat × Nat)) (c : Nat) : Nat × Nat := cs.getD c (0, 0)
def opAt (cs : List (Nat × Nat)) (c s : Nat) : Nat := if s = 0 then (chAt cs c).1 else (chAt cs c).2
def inCh (cs : List (Nat × Nat)) (j : Nat) : Bool := cs.any fun c => c.1 == j || c.2 == j
/-- Which operations of the chains are listed. -/
def mkd (cs : List (Nat × Nat)) (s : List Nat) (j : Nat) : Prop := ∃ c, c < cs.length ∧ ((1 ≤ s.getD c 2 ∧ (chAt cs c).1 = j) ∨ (2 ≤ s.getD c 2 ∧ (chAt cs c).2 = j))
structure Lst (listed L : Array Bool) (cs : List (Nat × Nat)) (s : List Nat) : Prop where
  size : L.size = listed.size
  at' : ∀ j, j < L.size → (L.getD j false = true ↔ listed.getD j false = true ∨ mkd cs s j)
section
variable {listed : Array Bool} {cs : List (Nat × Nat)}
structure ParP (ops : Array Oper) (listed : Array Bool) (cs : List (Nat × Nat)) : Prop where
  size : listed.size = ops.size
  ne : ∀ c d, c < cs.length → d < cs.length → (chAt cs c).1 ≠ (chAt cs d).2
  inj : ∀ c d, c < cs.length → d < cs.length → (chAt cs c).1 = (chAt cs d).1 ∨ (chAt cs c).2 = (chAt cs d).2 → c = d
  free : ∀ c, c < cs.length → listed.getD (chAt cs c).1 true = false ∧ listed.getD (chAt cs c).2 true = false
  first : ∀ c, c < cs.length → ∃ o, ops[(chAt cs c).1]? = some o ∧ ∀ e ∈ o.after, Region.binds .any e = true → listed.getD e.on false = true
  second : ∀ c, c < cs.length → ∃ o, ops[(chAt cs c).2]? = some o ∧ (∀ e ∈ o.after, Region.binds .any e = true → listed.getD e.on false = true ∨ e.on = (chAt cs c).1 ∨ ∃ d, d < c ∧ e.on = (chAt cs d).2) ∧ ∃ e ∈ o.after, Region.binds .any e = true ∧ e.on = (chAt cs c).1
  other : ∀ j, j < ops.size → listed.getD j true = false → inCh cs j = false → ∃ o, ops[j]? = some o ∧ ((∀ c, c < cs.length → ∃ e ∈ o.after, Region.binds .any e = true ∧ e.on = (chAt cs c).2) ∨ ∃ e ∈ o.after, Region.binds .any e = true ∧ listed.getD e.on true = false ∧ inCh cs e.on = false)
theorem getD_set_iff {L : Array Bool} {i j : Nat} (hj : j < L.size) : (L.setIfInBounds i true).getD j false = true ↔ j = i ∨ L.getD j false = true := by
  simp only [Array.getD_eq_getD_getElem?, Array.getElem?_setIfInBounds]
  by_cases h : i = j
  · subst h; simp [hj]
  · simp [h, Ne.symm h]
/-- A chain goes on. -/
theorem Lst.step (h : ParP ops listed cs) {L : Array Bool} {s : List Nat} (hL : Lst listed L cs s) (hs : s ∈ vecs cs.length) {c : Nat} (hc : c < cs.length) (hlt : s.getD c 2 < 2) : Lst listed (L.setIfInBounds (opAt cs c (s.getD c 2)) true) cs (s.set c (s.getD c 2 + 1)) := by
  have hsl := ((mem_vecs _ _).1 hs).1
  have hget : ∀ d, (s.set c (s.getD c 2 + 1)).getD d 2 = if d = c then s.getD c 2 + 1 else s.getD d 2 := by
    intro d
    simp only [List.getD_eq_getElem?_getD, List.getElem?_set]
    by_cases e : c = d
    · subst e; simp [hsl, hc]
    · simp [e, Ne.symm e]
  refine ⟨by simp [hL.size], fun j hj => ?_⟩
  have hj' : j < L.size := by simpa using hj
  rw [getD_set_iff hj', hL.at' j hj']
  have key : mkd cs (s.set c (s.getD c 2 + 1)) j ↔ j = opAt cs c (s.getD c 2) ∨ mkd cs s j := by
    constructor
    · rintro ⟨d, hd, e⟩
      rw [hget d] at e
      by_cases hdc : d = c
      · subst hdc
        rw [if_pos rfl] at e
        rcases e with ⟨_, e⟩ | ⟨e0, e⟩
        · by_cases hz : s.getD d 2 = 0
          · left; unfold opAt; rw [if_pos hz]; exact e.symm
          · right; exact ⟨d, hd, .inl ⟨by omega, e⟩⟩
        · left; unfold opAt; rw [if_neg (by omega)]; exact e.symm
      · rw [if_neg hdc] at e
        exact .inr ⟨d, hd, e⟩
    · rintro (e | ⟨d, hd, e⟩)
      · refine ⟨c, hc, ?_⟩
        rw [hget c, if_pos rfl]
        unfold opAt at e
        split at e
        · exact .inl ⟨by omega, e.symm⟩
        · exact .inr ⟨by omega, e.symm⟩
      · refine ⟨d, hd, ?_⟩
        rw [hget d]
        by_cases hdc : d = c
        · subst hdc
          rw [if_pos rfl]
          exact e.imp (fun t => ⟨by omega, t.2⟩) (fun t => ⟨by omega, t.2⟩)
        · rw [if_neg hdc]; exact e
  rw [key]
  constructor
  · rintro (e | e | e)
    · exact .inr (.inl e)
    · exact .inl e
    · exact .inr (.inr e)
  · rintro (e | e | e)
    · exact .inr (.inl e)
    · exact .inl e
    · exact .inr (.inr e)
theorem marks_size : ∀ (ord : List Nat) (l : Array Bool), (marks ord l).size = l.size
  | [], _ => rfl
  | i :: ord, l => by
    show (marks ord (l.setIfInBounds i true)).size = _
    rw [marks_size ord]; simp
theorem marks_iff : ∀ (ord : List Nat) (l : Array Bool) (j : Nat), j < l.size → ((marks ord l).getD j false = true ↔ j ∈ ord ∨ l.getD j false = true)
  | [], l, j, hj => by simp [marks]
  | i :: ord, l, j, hj => by
    show (marks ord (l.setIfInBounds i true)).getD j false = true ↔ _
    rw [marks_iff ord _ j (by simpa using hj), getD_set_iff hj, List.mem_cons]
    constructor
    · rintro (e | e | e)
      · exact .inl (.inr e)
      · exact .inl (.inl e)
      · exact .inr e
    · rintro ((e | e) | e)
      · exact .inr (.inl e)
      · exact .inl e
      · exact .inr (.inr e)
/-- All chains through. -/
theorem Lst.all {L : Array Bool} {s : List Nat} (hL : Lst listed L cs s) (hs : s ∈ vecs cs.length) (hall : s.all (· == 2) = true) : L = marks (cs.flatMap fun c => [c.1, c.2]) listed := by
  have hsl := ((mem_vecs _ _).1 hs).1
  have h2 : ∀ c, c < cs.length → s.getD c 2 = 2 := fun c hc => by
    have := List.all_eq_true.1 hall (s[c]'(by omega)) (List.getElem_mem _)
    simp only [beq_iff_eq] at this
    simp [List.getD_eq_getElem?_getD, show c < s.length by omega, this]
  refine Array.ext (by rw [marks_size, hL.size]) fun j h1 h2' => ?_
  have e1 : L[j] = L.getD j false := by simp [Array.getD_eq_getD_getElem?, h1]
  have e2 : (marks (cs.flatMap fun c => [c.1, c.2]) listed)[j] = (marks (cs.flatMap fun c => [c.1, c.2]) listed).getD j false := by simp [Array.getD_eq_getD_getElem?, h2']
  rw [e1, e2, Bool.eq_iff_iff, hL.at' j h1, marks_iff _ _ _ (by rw [← hL.size]; exact h1)]
  have : mkd cs s j ↔ j ∈ cs.flatMap fun c => [c.1, c.2] := by
    rw [List.mem_flatMap]
    constructor
    · rintro ⟨c, hc, e⟩
      refine ⟨cs[c], List.getElem_mem _, ?_⟩
      have e' : chAt cs c = cs[c] := by simp [chAt, List.getD_eq_getElem?_getD, hc]
      rw [e'] at e
      rcases e with ⟨_, e⟩ | ⟨_, e⟩ <;> simp [e]
    · rintro ⟨x, hx, e⟩
      obtain ⟨c, hc, rfl⟩ := List.mem_iff_getElem.1 hx
      have e' : chAt cs c = cs[c] := by simp [chAt, List.getD_eq_getElem?_getD, hc]
      simp only [List.mem_cons, List.not_mem_nil, or_false] at e
      refine ⟨c, hc, ?_⟩
      rw [h2 c hc, e']
      rcases e with e | e
      · exact .inl ⟨by decide, e.symm⟩
      · exact .inr ⟨by decide, e.symm⟩
  rw [this]
  exact Or.comm
end
def rem (s : List Nat) : Nat := (s.map (2 - ·)).sum
end
/-- An append of one value that a chain makes: where it stands, and what it appends to. -/
structure AppC where
  ib : Nat
  ia : Nat
  db : Tmp
  da : Tmp
  e : TypeId
  v : Value
  n : Nat
  xs : List Value
  y : Value
/-- What a chain holds. -/
def AppC.blk (c : AppC) (ub ua : Value) (st : Nat) (k : Nat) : Prop := (st < 2 ∧ c.v.ownBlock = some k) ∨ (st = 1 ∧ ub = .slice (some ⟨k, 0, none⟩) 1 1) ∨ (st = 2 ∧ ua.ownBlock = some k)
def AppC.holds (c : AppC) (B : Nat) (w : World) (ub ua : Value) (st : Nat) : Prop :=
  (st < 2 → w.ownsRow B c.e 1 c.v c.n c.xs) ∧ (st = 1 → ∃ k, ub = .slice (some ⟨k, 0, none⟩) 1 1 ∧ Blk w k c.e #[c.y]) ∧ (st = 2 → w.ownsRow B c.e 1 ua (c.n + 1) (c.xs ++ [c.y]))
theorem AppC.lt {c : AppC} {B : Nat} {w : World} {ub ua : Value} {st : Nat} (h : c.holds B w ub ua st) {k : Nat} (hk : c.blk ub ua st k) : k < w.heap.size := by
  obtain ⟨h1, h3, h4⟩ := h
  rcases hk with ⟨hs, hk⟩ | ⟨hs, hk⟩ | ⟨hs, hk⟩
  · exact ((h1 hs).lt k hk).2
  · obtain ⟨k', e, hb⟩ := h3 hs
    rw [hk] at e
    injection e with e
    injection e with e
    injection e with e
    rw [e]; exact hb.lt
  · exact ((h4 hs).lt k hk).2
theorem AppC.stays {c : AppC} {B : Nat} {w w' : World} {ub ua : Value} {st : Nat} {fp : Nat → Prop} (h : c.holds B w ub ua st) (ch : Ch fp w w') (hn : ∀ k, c.blk ub ua st k → ¬ fp k) : c.holds B w' ub ua st := by
  obtain ⟨h1, h3, h4⟩ := h
  refine ⟨fun hs => ch.own (h1 hs) fun k hk => hn k (.inl ⟨hs, hk⟩), fun hs => ?_, fun hs => ch.own (h4 hs) fun k hk => hn k (.inr (.inr ⟨hs, hk⟩))⟩
  obtain ⟨k, e, hb⟩ := h3 hs
  exact ⟨k, e, ch.blk hb (hn k (.inr (.inl ⟨hs, e⟩)))⟩
/-- All chains: UB, UA are what the slots hold. -/
structure AppJ (B : Nat) (cs : List AppC) (w0 w : World) (UB UA : Nat → Value) (s : Nat → Nat) : Prop where
  each : ∀ (i : Nat) (c : AppC), cs[i]? = some c → c.holds B w (UB i) (UA i) (s i)
  apart : ∀ (i j : Nat) (c d : AppC), cs[i]? = some c → cs[j]? = some d → i ≠ j → ∀ k, c.blk (UB i) (UA i) (s i) k → ¬ d.blk (UB j) (UA j) (s j) k
  ch : Ch (fun k => ∃ (i : Nat) (c : AppC), cs[i]? = some c ∧ c.v.ownBlock = some k) w0 w
  old : ∀ (i : Nat) (c : AppC), cs[i]? = some c → ∀ k, k < w0.heap.size → c.blk (UB i) (UA i) (s i) k → c.v.ownBlock = some k
  hB : B ≤ w0.heap.size
def upd (U : Nat → Value) (i : Nat) (v : Value) : Nat → Value := fun j => if j = i then v else U j
def updN (U : Nat → Nat) (i : Nat) (v : Nat) : Nat → Nat := fun j => if j = i then v else U j
/-- One chain goes on. -/
theorem AppJ.step {B : Nat} {cs : List AppC} {w0 w w' : World} {UB UA : Nat → Value} {s : Nat → Nat} (h : AppJ B cs w0 w UB UA s) {i : Nat} {c : AppC} (hi : cs[i]? = some c) (ub ua : Value) (st : Nat)
    (hc : c.holds B w' ub ua st) (hch : Ch (fun k => c.v.ownBlock = some k) w w') (hown : s i < 2) (hf : ∀ k, c.blk ub ua st k → c.blk (UB i) (UA i) (s i) k ∨ w.heap.size ≤ k) :
    AppJ B cs w0 w' (upd UB i ub) (upd UA i ua) (updN s i st) := by
  have other : ∀ j d, cs[j]? = some d → j ≠ i → d.holds B w' (UB j) (UA j) (s j) := fun j d hj hne =>
    AppC.stays (h.each j d hj) hch fun k hk hk' => h.apart i j c d hi hj (Ne.symm hne) k (.inl ⟨hown, hk'⟩) hk
  refine ⟨fun j d hj => ?_, fun j j' d d' hj hj' hne k hk hk' => ?_, h.ch.trans hch (fun k _ hk => ⟨i, c, hi, hk⟩), fun j d hj k hk hb => ?_, h.hB⟩
  · by_cases hji : j = i
    · subst hji
      rw [hi] at hj
      obtain rfl := Option.some.inj hj
      simpa [upd, updN] using hc
    · simpa [upd, updN, hji] using other j d hj hji
  · by_cases hji : j = i
    · subst hji
      rw [hi] at hj
      obtain rfl := Option.some.inj hj
      have hj'' : j' ≠ j := Ne.symm hne
      simp only [upd, updN, if_true, hj'', if_false] at hk hk'
      rcases hf k hk with e | e
      · exact h.apart j j' c d' hi hj' hne k e hk'
      · have := AppC.lt (h.each j' d' hj') hk'
        omega
    · by_cases hji' : j' = i
      · subst hji'
        rw [hi] at hj'
        obtain rfl := Option.some.inj hj'
        simp only [upd, updN, if_true, hji, if_false] at hk hk'
        rcases hf k hk' with e | e
        · exact h.apart j j' d c hj hi hne k hk e
        · have := AppC.lt (h.each j d hj) hk
          omega
      · simp only [upd, updN, hji, hji', if_false] at hk hk'
        exact h.apart j j' d d' hj hj' hne k hk hk'
  · by_cases hji : j = i
    · subst hji
      rw [hi] at hj
      obtain rfl := Option.some.inj hj
      simp only [upd, updN, if_true] at hb
      rcases hf k hb with e | e
      · exact h.old j c hi k hk e
      · have := h.ch.size; omega
    · simp only [upd, updN, hji, if_false] at hb
      exact h.old j d hj k hk hb
theorem AppJ.drewN {B : Nat} {cs : List AppC} {w0 w : World} {UB UA : Nat → Value} {s : Nat → Nat} (h : AppJ B cs w0 w UB UA s) (n : Nat) : AppJ B cs w0 (w.drewN n) UB UA s :=
  ⟨fun i c hi => AppC.stays (h.each i c hi) ((Ch.refl (fun _ => False) w).drewN n) (fun _ _ => id), h.apart, h.ch.drewN n, h.old, h.hB⟩
end Go.Proofs.YtjcdknhejcbpiaaGreat.Mix
namespace Go.Proofs.YtjcdknhejcbpiaaGreat
open Go.RowKit
set_option linter.unusedVariables false
set_option linter.unusedSimpArgs false
set_option linter.unusedSectionVars false
/-- An event. -/
structure EvR where
  d : Int
  op : OpV
  s : ByteArray
  ma : Option Addr
  mn : Nat
  mc : Nat
  mz : List Int
def EvR.cells (x : EvR) : List Value := [.int .u8 x.d, .int .u8 x.op.k, .int .i64 x.op.sl, .int .i64 x.op.at', .int .i64 x.op.n, .int .u32 x.op.id, .int .u8 x.op.g, .string x.op.s, .string x.s, .slice x.ma x.mn x.mc]
structure OpV.ok (x : OpV) : Prop where
  k : 0 ≤ x.k ∧ x.k < 256
  sl : -9223372036854775808 ≤ x.sl ∧ x.sl < 9223372036854775808
  at' : -9223372036854775808 ≤ x.at' ∧ x.at' < 9223372036854775808
  n : -9223372036854775808 ≤ x.n ∧ x.n < 9223372036854775808
  id : 0 ≤ x.id ∧ x.id < 4294967296
structure EvR.ok (w : World) (x : EvR) : Prop where
  d : 0 ≤ x.d ∧ x.d < 256
  op : x.op.ok
  ml : x.mz.length = x.mn
  mz : ∀ z ∈ x.mz, 0 ≤ z ∧ z < 256
  mcell : 0 < x.mn → ∃ b off, x.ma = some ⟨b, off, none⟩ ∧ b < w.heap.size ∧ ∀ i, i < x.mn → w.cell? ⟨b, off + i, none⟩ = some (.int .u8 (lk x.mz i))
def InEvR (w : World) (a : Option Addr) (n : Nat) (xs : List EvR) : Prop :=
  xs.length = n ∧ (∀ x ∈ xs, x.ok w) ∧ (0 < n → ∃ b off, a = some ⟨b, off, none⟩ ∧ b < w.heap.size ∧ ∀ (i j : Nat) (x : EvR) v, xs[i]? = some x → x.cells[j]? = some v → w.cell? ⟨b, off + (i * 10 + j), none⟩ = some v)
theorem below_cell {B : Nat} {w w' : World} (h : Below B w w') {p : Addr} (hp : p.block < B) : w'.cell? p = w.cell? p := World.cell?_of_block (w := w) (h.block p.block hp)
theorem EvR.ok.below {w w' : World} {x : EvR} (h : x.ok w) (b : Below w.heap.size w w') : x.ok w' :=
  ⟨h.d, h.op, h.ml, h.mz, fun h0 => by
    obtain ⟨g, off, e, hg, hc⟩ := h.mcell h0
    exact ⟨g, off, e, Nat.lt_of_lt_of_le hg b.size, fun i hi => (below_cell b hg).trans (hc i hi)⟩⟩
theorem InEvR.below {w w' : World} {a : Option Addr} {n : Nat} {xs : List EvR} (h : InEvR w a n xs) (b : Below w.heap.size w w') : InEvR w' a n xs :=
  ⟨h.1, fun x hx => (h.2.1 x hx).below b, fun h0 => by
    obtain ⟨g, off, e, hg, hc⟩ := h.2.2 h0
    exact ⟨g, off, e, Nat.lt_of_lt_of_le hg b.size, fun i j x v hi hj => (below_cell b hg).trans (hc i j x v hi hj)⟩⟩
end Go.Proofs.YtjcdknhejcbpiaaGreat
namespace Go.Proofs.YtjcdknhejcbpiaaGreat
open Go.RowKit
set_option linter.unusedVariables false
set_option linter.unusedSimpArgs false
set_option linter.unusedSectionVars false
set_option maxRecDepth 100000 in
theorem lconfig_any (s : ByteArray) (rd : Int) (w : World) : Calls Tryz.prog 19 #[.string s, .int .i64 rd] w fun e w' => e = .returned (Cf.v ⟨200, 1, 2, rd, 1, 1, 1, s⟩) ∧ Ch (fun _ => False) w w' := by
  go_enter Tryz.func19, Tryz.ntmps19
  go_wp2_with fail
  refine bodyPost_ret (v := Cf.v ⟨200, 1, 2, rd, 1, 1, 1, s⟩) ?_ rfl ⟨rfl, below_ch ?_⟩
  · simp [results, Tryz.results19, go_sem, Cf.v]
  · repeat (refine Below.setCell ?_ (by simp) _)
    exact (Below.refl _ _).alloc (Nat.le_refl _) _
def EvR.v (x : EvR) : Value := .agg #[.int .u8 x.d, .int .u8 x.op.k, .int .i64 x.op.sl, .int .i64 x.op.at', .int .i64 x.op.n, .int .u32 x.op.id, .int .u8 x.op.g, .string x.op.s, .string x.s, .slice x.ma x.mn x.mc]
end Go.Proofs.YtjcdknhejcbpiaaGreat
