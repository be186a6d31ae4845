/- Lemmas that the proof of the last text leans on; no condition. -/
import Derived.Test.YtjcdknhejcbpiaaGreatNb33
import Derived.Test.YtjcdknhejcbpiaaGreatNb17
import Derived.Test.YtjcdknhejcbpiaaGreatNb27
namespace Go.Proofs.YtjcdknhejcbpiaaGreat
open Go.RowKit
set_option linter.unusedVariables false
set_option linter.unusedSimpArgs false
theorem fit_cnt (t : T) : ∀ h, T.fit h t → 4 * (t.cnt + 1) ≤ t.bytes := by
  induction t using T.ind with
  | hl s =>
    intro h hf
    obtain ⟨_, h1, h2⟩ := fit_leaf hf
    simp only [T.cnt, T.bytes]
    omega
  | hn k ks ih =>
    intro h hf
    obtain ⟨m, rfl, rfl, h1, h2, h3⟩ := fit_node hf
    have key : ∀ l : List T, (∀ t ∈ l, 4 * (t.cnt + 1) ≤ t.bytes) → 4 * (T.cntL l + l.length) ≤ T.bytesL l := by
      intro l
      induction l with
      | nil => intro _; simp [T.bytesL, T.cntL]
      | cons t ts ih' =>
        intro hl
        have a := ih' (fun t ht => hl t (by simp [ht]))
        have b := hl t (by simp)
        simp only [T.bytesL, T.cntL, List.length_cons]
        omega
    have := key ks (fun t ht => ih t ht m (h3 t ht))
    simp only [T.cnt, T.bytes]
    omega
theorem good_cnt {t : T} (hg : t.good) (hb : t.bytes ≤ 65536) : t.cnt ≤ 60000 := by
  rcases hg with ⟨s, rfl, _, _⟩ | ⟨h, _, hf⟩
  · simp [T.cnt]
  · have := fit_cnt t h hf
    omega
def rootZ : Value := .agg #[.int .u64 0, .int .i64 0, .int .i64 0, .int .i64 0, .int .i64 0]
def RopeAny (A : ArA) (s : ByteArray) (w : World) (e : Ending) (w' : World) : Prop :=
  (s.size = 0 ∧ e = .returned (.tuple #[rootZ, .int .i64 0]) ∧ Ch (fun _ => False) w w') ∨
  (0 < s.size ∧ ∃ t, buildT s = [t] ∧ t.good ∧ t.bytes = s.size ∧ ((t.cnt ≤ A.n ∧ RopeOut A [] 0 t w e w') ∨ (A.n < t.cnt ∧ e = .returned (.tuple #[rootZ, .int .i64 6]) ∧ Ch (fun _ => False) w w')))
theorem rope_any (A : ArA) (s : ByteArray) (w : World) (h : ArM A w [] 0) (hs : s.size ≤ 65536) (hn : A.n ≤ 16384) : Calls Tryz.prog 47 #[.pointer (some ⟨A.ab, 0, none⟩), .string s] w (RopeAny A s w) := by
  by_cases h0 : s.size = 0
  · have hz : s = ⟨#[]⟩ := by
      cases s with
      | mk d =>
        have : d.size = 0 := h0
        rw [Array.size_eq_zero_iff] at this
        rw [this]
    subst hz
    exact (rope_zero A w h hn).mono fun e w' q => .inl ⟨rfl, q⟩
  · have hp : 0 < s.size := by omega
    obtain ⟨t, ht, hg, hb⟩ := build_good hp hs
    have hc := good_cnt hg (by omega)
    by_cases hr : t.cnt ≤ A.n
    · exact (rope_new A [] 0 s t w h ArP.nil hp hs ht hc (by simpa using hr) hn).mono fun e w' q => .inr ⟨hp, t, ht, hg, hb, .inl ⟨hr, q⟩⟩
    · exact (rope_no A [] 0 s t w h ArP.nil hp hs ht hc (by simp; omega) hn).mono fun e w' q => .inr ⟨hp, t, ht, hg, hb, .inr ⟨by omega, q⟩⟩
structure Rt where
  a : Int
  h : Int
  b : Int
  r : Int
  l : Int
def Rt.v (x : Rt) : Value := .agg #[.int .u64 x.a, .int .i64 x.h, .int .i64 x.b, .int .i64 x.r, .int .i64 x.l]
def RopeRes (N : Nat) (s : ByteArray) (x : Rt) (en : Int) (ns : List An) : Prop :=
  (s.size = 0 ∧ x = ⟨0, 0, 0, 0, 0⟩ ∧ en = 0 ∧ ns = []) ∨
  (0 < s.size ∧ ∃ t, buildT s = [t] ∧ t.good ∧ t.bytes = s.size ∧
    ((t.cnt ≤ N ∧ x = ⟨hdl (t.cnt - 1), t.ht, t.meas.b, t.meas.r, t.meas.l⟩ ∧ en = 0 ∧ ns.length = t.cnt ∧ (∀ (j : Nat) (y : An), ns[j]? = some y → ∃ sp, (T.post 0 t)[j]? = some sp ∧ y.x = sp.nd 0 (T.post 0 t))) ∨
     (N < t.cnt ∧ x = ⟨0, 0, 0, 0, 0⟩ ∧ en = 6 ∧ ns = [])))
def RopeMem (A : ArA) (s : ByteArray) (x : Rt) (en : Int) (w w' : World) : Prop := ∃ ns, RopeRes A.n s x en ns ∧ ArM A w' ns 0 ∧ ArP ns ∧ Ch A.mut w w' ∧ ∀ y ∈ ns, ∀ b, y.kb b → w.heap.size ≤ b
theorem rope_mem (A : ArA) (s : ByteArray) (w : World) (h : ArM A w [] 0) (hs : s.size ≤ 65536) (hn : A.n ≤ 16384) : Calls Tryz.prog 47 #[.pointer (some ⟨A.ab, 0, none⟩), .string s] w fun e w' => ∃ x en, e = .returned (.tuple #[Rt.v x, .int .i64 en]) ∧ RopeMem A s x en w w' := by
  refine (rope_any A s w h hs hn).mono ?_
  rintro e w' (⟨h0, rfl, hc⟩ | ⟨h0, t, ht, hg, hb, ⟨h1, ys, rfl, hM, hP, hl, hy, hc, hk⟩ | ⟨h1, rfl, hc⟩⟩)
  · exact ⟨⟨0, 0, 0, 0, 0⟩, 0, rfl, [], .inl ⟨h0, rfl, rfl, rfl⟩, h.keep0 hc, ArP.nil, hc.mono (fun _ _ e => e.elim), fun y hy => by simp at hy⟩
  · refine ⟨⟨hdl (t.cnt - 1), t.ht, t.meas.b, t.meas.r, t.meas.l⟩, 0, by simp [Rt.v, T.rv], ys, .inr ⟨h0, t, ht, hg, hb, .inl ⟨h1, rfl, rfl, hl, fun j y hj => ?_⟩⟩, hM, hP, hc, hk⟩
    obtain ⟨sp, a, b⟩ := hy j y hj
    exact ⟨sp, a, b⟩
  · exact ⟨⟨0, 0, 0, 0, 0⟩, 6, rfl, [], .inr ⟨h0, t, ht, hg, hb, .inr ⟨h1, rfl, rfl, rfl⟩⟩, h.keep0 hc, ArP.nil, hc.mono (fun _ _ e => e.elim), fun y hy => by simp at hy⟩
theorem RopeMem.keep {A : ArA} {s : ByteArray} {x : Rt} {en : Int} {w w1 w2 : World} {fp : Nat → Prop} (h : RopeMem A s x en w w1) (c : Ch fp w1 w2) (hf : ∀ k, k < w1.heap.size → A.foot [] k → ¬ fp k) (hk : ∀ k, fp k → k < w.heap.size ∨ w1.heap.size ≤ k) (hn : ∀ k, k < w.heap.size → ¬ fp k) : RopeMem A s x en w w2 := by
  obtain ⟨ns, h1, h2, h3, h4, h5⟩ := h
  refine ⟨ns, h1, h2.keep c (fun k hk' hf' e => ?_), h3, h4.trans c (fun i hi e => absurd e (hn i hi)), h5⟩
  rcases hf' with hf' | hf' | hf' | ⟨y, hy, hf'⟩
  · exact hf k hk' (.inl hf') e
  · exact hf k hk' (.inr (.inl hf')) e
  · exact hf k hk' (.inr (.inr (.inl hf'))) e
  · have := h5 y hy k hf'
    rcases hk k e with e | e <;> omega
theorem RopeMem.shift {A : ArA} {s : ByteArray} {x : Rt} {en : Int} {w0 w w1 w2 : World} {fp : Nat → Prop} (h : RopeMem A s x en w w1) (c0 : Ch (fun _ => False) w0 w) (c : Ch fp w1 w2) (hf : ∀ k, k < w1.heap.size → A.foot [] k → ¬ fp k) (hk : ∀ k, fp k → k < w.heap.size ∨ w1.heap.size ≤ k) (hn : ∀ k, k < w0.heap.size → ¬ fp k) : RopeMem A s x en w0 w2 := by
  obtain ⟨ns, h1, h2, h3, h4, h5⟩ := h
  refine ⟨ns, h1, h2.keep c (fun k hk' hf' e => ?_), h3, ((c0.mono (fun _ _ e => e.elim)).trans h4 (fun _ _ e => e)).trans c (fun i hi e => absurd e (hn i hi)), fun y hy b hb => Nat.le_trans c0.size (h5 y hy b hb)⟩
  rcases hf' with hf' | hf' | hf' | ⟨y, hy, hf'⟩
  · exact hf k hk' (.inl hf') e
  · exact hf k hk' (.inr (.inl hf')) e
  · exact hf k hk' (.inr (.inr (.inl hf'))) e
  · have := h5 y hy k hf'
    rcases hk k e with e | e <;> omega
theorem RopeMem.ch {A : ArA} {s : ByteArray} {x : Rt} {en : Int} {w w1 : World} (h : RopeMem A s x en w w1) : Ch A.mut w w1 := by
  obtain ⟨ns, h1, h2, h3, h4, h5⟩ := h
  exact h4
set_option linter.unusedSectionVars false
structure OpV where
  k : Int
  sl : Int
  at' : Int
  n : Int
  id : Int
  g : Int
  s : ByteArray
def OpV.cells (x : OpV) : List Value := [.int .u8 x.k, .int .i64 x.sl, .int .i64 x.at', .int .i64 x.n, .int .u32 x.id, .int .u8 x.g, .string x.s]
def OpV.zero : OpV := ⟨0, 0, 0, 0, 0, 0, ⟨#[]⟩⟩
structure RsV where
  er : Int
  rev : Int
  sl : Int
  at' : Int
  g : Int
  s : ByteArray
  b : Int
  r : Int
  l : Int
  ik : Int
  fr : Int
  to : Int
def RsV.cells (x : RsV) (d : Value) : List Value := [.int .i64 x.er, .int .i64 x.rev, .int .i64 x.sl, .int .i64 x.at', .int .u8 x.g, .string x.s, .int .i64 x.b, .int .i64 x.r, .int .i64 x.l, .int .u8 x.ik, .int .i64 x.fr, .int .i64 x.to, d]
def RsV.zero : RsV := ⟨0, 0, 0, 0, 0, ⟨#[]⟩, 0, 0, 0, 0, 0, 0⟩
def opCells (l : List OpV) : List Value := l.flatMap OpV.cells
def rsCells (l : List (RsV × Value)) : List Value := l.flatMap fun x => x.1.cells x.2
def stoCells (hd : List Value) (a b c d e f : Value) (rq : List OpV) (rp : List (RsV × Value)) : List Value := hd ++ ([a, b, c, d, e, f] ++ (opCells rq ++ rsCells rp))
theorem sto_zero : (Tryz.zeroCells125).toList.drop 24 = opCells (List.replicate 8 OpV.zero) ++ rsCells (List.replicate 8 (RsV.zero, .slice none 0 0)) := by kernel_rfl
theorem StC.sto {w : World} {sb : Nat} {hd : List Value} {a b c d e f : Value} {cs : Array Value} (h : StC w sb hd a b c d e f cs) (hl : hd.length = 18) :
    Blk w sb 125 (stoCells hd a b c d e f (List.replicate 8 OpV.zero) (List.replicate 8 (RsV.zero, .slice none 0 0))).toArray := by
  have e : cs = (stoCells hd a b c d e f (List.replicate 8 OpV.zero) (List.replicate 8 (RsV.zero, .slice none 0 0))).toArray := by
    apply Array.ext_getElem?
    intro k
    refine Eq.trans ?_ (List.getElem?_toArray (xs := stoCells hd a b c d e f (List.replicate 8 OpV.zero) (List.replicate 8 (RsV.zero, .slice none 0 0))) (i := k)).symm
    unfold stoCells
    by_cases h1 : k < 18
    · rw [h.h k h1, List.getElem?_append_left (by omega)]
    · rw [List.getElem?_append_right (by omega), hl]
      by_cases h2 : k < 24
      · rw [List.getElem?_append_left (by simp; omega)]
        obtain ⟨j, rfl⟩ : ∃ j, k = 18 + j := ⟨k - 18, by omega⟩
        rw [Nat.add_sub_cancel_left]
        match j, h2 with
        | 0, _ => exact h.c18
        | 1, _ => exact h.c19
        | 2, _ => exact h.c20
        | 3, _ => exact h.c21
        | 4, _ => exact h.c22
        | 5, _ => exact h.c23
        | j + 6, h => exact absurd h (by omega)
      · rw [List.getElem?_append_right (by simp; omega), h.z k (by omega), ← sto_zero, List.getElem?_drop, Array.getElem?_toList]
        congr 1
        simp
        omega
  rw [← e]
  exact h.blk
theorem sto_put (hd : List Value) (a b c d e f : Value) (rq : List OpV) (rp : List (RsV × Value)) (hl : hd.length = 18) (k : Nat) (x : Value) :
    (stoCells hd a b c d e f rq rp).toArray.setIfInBounds (18 + k) x = (hd ++ ([a, b, c, d, e, f] ++ (opCells rq ++ rsCells rp)).set k x).toArray := by
  rw [List.setIfInBounds_toArray]
  unfold stoCells
  rw [List.set_append_right _ _ (by omega), hl, Nat.add_sub_cancel_left]
theorem sto_put22 (hd : List Value) (a b c d e f : Value) (rq : List OpV) (rp : List (RsV × Value)) (hl : hd.length = 18) (x : Value) : (stoCells hd a b c d e f rq rp).toArray.setIfInBounds 22 x = (stoCells hd a b c d x f rq rp).toArray := sto_put hd a b c d e f rq rp hl 4 x
def bankR (B p cb : Nat) (lv : Value) (vs : List Int) (lg : List Acc) : Res where
  holds w := Bank B w p cb lv vs lg
  foot := FP p cb lv
  stable h c hn := h.ch c (hn _ (.inl rfl)) (hn _ (.inr (.inl rfl))) (fun k hk => hn k (.inr (.inr hk)))
  lt h k hk := by
    rcases hk with rfl | rfl | hk
    · exact h.hp.lt
    · exact h.hc.lt
    · exact (h.hl.lt k hk).2
def arR (A : ArA) (ns : List An) (st : Int) : Res where
  holds w := ArM A w ns st
  foot := A.foot ns
  stable h c hn := h.keep c (fun k _ hk => hn k hk)
  lt h k hk := h.foot_lt hk
def fdsR (fds : List (Nat × Array Value)) : List Res := fds.map fun x => blkR x.1 202 x.2
def fdsV (fds : List (Nat × Array Value)) : List Value := fds.map fun x => .pointer (some ⟨x.1, 0, none⟩)
theorem ArM.noblk {A : ArA} {w : World} {ns : List An} {st : Int} (h : ArM A w ns st) {k : Nat} {t : TypeId} {cs : Array Value} (hb : Blk w k t cs) (h1 : t ≠ 164) (h2 : t ≠ 211) (h3 : t ≠ 213) (h4 : t ≠ 3) (h5 : t ≠ 54) (hk : ∀ y ∈ ns, ¬ y.kb k) : ¬ A.foot ns k := by
  rintro (e | rfl | rfl | ⟨y, hy, hyk⟩)
  · exact h.off hb h1 h2 h3 e
  · exact Blk.ne hb h.b0 h4 rfl
  · exact Blk.ne hb h.b2 h5 rfl
  · exact hk y hy hyk
def OpV.v (x : OpV) : Value := .agg #[.int .u8 x.k, .int .i64 x.sl, .int .i64 x.at', .int .i64 x.n, .int .u32 x.id, .int .u8 x.g, .string x.s]
def acqOp : OpV := ⟨5, 0, 0, 0, 0, 0, ⟨#[]⟩⟩
inductive Cop
  | acq
  | len (k : Nat)
  | read (k a b : Nat)
  | rune (k b : Nat)
  | line (k b : Nat)
  | mark (k : Nat) (i : Int)
  | seek (k a : Nat)
  | next (k b : Nat)
  | rel (k : Nat)
def Cop.op : Cop → OpV
  | .acq => acqOp
  | .len k => ⟨6, k, 0, 0, 0, 0, ⟨#[]⟩⟩
  | .read k a b => ⟨7, k, a, b, 0, 0, ⟨#[]⟩⟩
  | .rune k b => ⟨8, k, 0, b, 0, 0, ⟨#[]⟩⟩
  | .line k b => ⟨9, k, 0, b, 0, 0, ⟨#[]⟩⟩
  | .mark k i => ⟨10, k, 0, 0, i, 0, ⟨#[]⟩⟩
  | .seek k a => ⟨11, k, a, 0, 0, 0, ⟨#[]⟩⟩
  | .next k b => ⟨12, k, 0, b, 0, 0, ⟨#[]⟩⟩
  | .rel k => ⟨13, k, 0, 0, 0, 0, ⟨#[]⟩⟩
def Cop.slot : Cop → Nat
  | .acq => 0
  | .len k => k
  | .read k _ _ => k
  | .rune k _ => k
  | .line k _ => k
  | .mark k _ => k
  | .seek k _ => k
  | .next k _ => k
  | .rel k => k
def Cop.small (n : Nat) : Cop → Prop
  | .acq => True
  | .len k => k < n
  | .read k a b => k < n ∧ a < 150 ∧ b < 150
  | .rune k b => k < n ∧ b < 150
  | .line k b => k < n ∧ b < 150
  | .mark k i => k < n ∧ 0 < i ∧ i < 7
  | .seek k a => k < n ∧ a < 150
  | .next k b => k < n ∧ b < 150
  | .rel k => k < n
end Go.Proofs.YtjcdknhejcbpiaaGreat
