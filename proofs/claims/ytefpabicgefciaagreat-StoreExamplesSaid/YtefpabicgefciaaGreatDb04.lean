/- Texts XSep, XBld, XForm for XChE, by trim.py. -/
import Derived.Test.YtefpabicgefciaaGreatDb01
import Derived.Test.YtefpabicgefciaaGreatProg
import Derived.Lib.Builder
import Derived.Lib.AppendStr
import Derived.Lib.UnsafeStr
import Derived.Laws.Externs
import Derived.OwnWalk
import Derived.Test.YtefpabicgefciaaGreatDb03
namespace Go.Proofs.YtefpabicgefciaaGreat
open Go.RowKit
set_option linter.unusedVariables false
set_option linter.unusedSimpArgs false
/-- A thing in memory: what it says, and which blocks it stands on. -/
structure Res where
  holds : World → Prop
  foot : Nat → Prop
  stable : ∀ {w w' : World} {fp : Nat → Prop}, holds w → Ch fp w w' → (∀ k, foot k → ¬ fp k) → holds w'
  lt : ∀ {w : World}, holds w → ∀ k, foot k → k < w.heap.size
def blkR (g : Nat) (t : TypeId) (cs : Array Value) : Res where
  holds w := Blk w g t cs
  foot k := k = g
  stable h c hn := c.blk h (hn g rfl)
  lt h k hk := by rw [hk]; exact h.lt
def rowR (B : Nat) (e : TypeId) (size n : Nat) (v : Value) (xs : List Value) : Res where
  holds w := w.ownsRow B e size v n xs
  foot k := v.ownBlock = some k
  stable h c hn := c.own h hn
  lt h k hk := (h.lt k hk).2
/-- A fact without blocks. -/
def pureR (p : Prop) : Res where
  holds _ := p
  foot _ := False
  stable h _ _ := h
  lt _ _ h := h.elim
/-- The things of a list lie apart, above B; below B nothing has changed since w0. -/
structure Mem (B : Nat) (w0 : World) (L : List Res) (w : World) : Prop where
  each : ∀ (i : Nat) (r : Res), L[i]? = some r → r.holds w
  apart : ∀ (i j : Nat) (r s : Res), L[i]? = some r → L[j]? = some s → i ≠ j → ∀ k, r.foot k → ¬ s.foot k
  low : ∀ (i : Nat) (r : Res), L[i]? = some r → ∀ k, r.foot k → B ≤ k
  bel : Below B w0 w
  bz : B ≤ w.heap.size
theorem Ch.belowB {fp : Nat → Prop} {w w' : World} {B : Nat} (c : Ch fp w w') (hB : B ≤ w.heap.size) (hf : ∀ k, k < w.heap.size → fp k → B ≤ k) : Below B w w' :=
  ⟨c.os, c.tape, c.output, c.size, fun k hk => c.block k (by omega) (fun e => by have := hf k (by omega) e; omega)⟩
section
variable {B : Nat} {w0 w w' : World} {L : List Res} {fp : Nat → Prop}
theorem Mem.keep (h : Mem B w0 L w) (c : Ch (fun _ => False) w w') : Mem B w0 L w' :=
  ⟨fun i r hi => r.stable (h.each i r hi) c (fun _ _ => id), h.apart, h.low, h.bel.trans (c.belowB h.bz (fun _ _ e => e.elim)), Nat.le_trans h.bz c.size⟩
theorem Mem.drewN (h : Mem B w0 L w) (n : Nat) : Mem B w0 L (w.drewN n) := h.keep ((Ch.refl _ w).drewN n)
theorem Mem.drew (h : Mem B w0 L w) : Mem B w0 L w.drew := h.keep ((Ch.refl _ w).drew)
theorem Mem.alloc (h : Mem B w0 L w) (o : Obj) : Mem B w0 L (w.alloc o) := h.keep ((Ch.refl _ w).alloc o)
theorem mem_set {L : List Res} {i j : Nat} {r s : Res} (h : (L.set i r)[j]? = some s) : (j = i ∧ s = r ∧ i < L.length) ∨ (j ≠ i ∧ L[j]? = some s) := by
  rw [List.getElem?_set] at h
  split at h
  · rename_i e
    split at h
    · rename_i hl
      exact .inl ⟨e.symm, (Option.some.inj h).symm, hl⟩
    · cases h
  · rename_i e
    exact .inr ⟨fun e' => e e'.symm, h⟩
/-- One thing has changed. -/
theorem Mem.upd (h : Mem B w0 L w) {i : Nat} {r : Res} (r' : Res) (hi : L[i]? = some r) (c : Ch fp w w') (hfp : ∀ k, k < w.heap.size → fp k → r.foot k) (h' : r'.holds w') (hf : ∀ k, r'.foot k → r.foot k ∨ w.heap.size ≤ k) : Mem B w0 (L.set i r') w' := by
  have hk : ∀ (j : Nat) (s : Res), L[j]? = some s → j ≠ i → ∀ k, s.foot k → ¬ fp k := fun j s hj hne k hs hp => h.apart i j r s hi hj (Ne.symm hne) k (hfp k (s.lt (h.each j s hj) k hs) hp) hs
  have hr' : ∀ (j : Nat) (s : Res), L[j]? = some s → j ≠ i → ∀ k, r'.foot k → ¬ s.foot k := fun j s hj hne k hr hs => by
    rcases hf k hr with e | e
    · exact h.apart i j r s hi hj (Ne.symm hne) k e hs
    · have := s.lt (h.each j s hj) k hs
      omega
  refine ⟨fun j s hj => ?_, fun j j' s s' hj hj' hne k hs hs' => ?_, fun j s hj k hs => ?_, h.bel.trans (c.belowB h.bz (fun k hk hp => h.low i r hi k (hfp k hk hp))), Nat.le_trans h.bz c.size⟩
  · rcases mem_set hj with ⟨rfl, rfl, _⟩ | ⟨hne, hj⟩
    · exact h'
    · exact s.stable (h.each j s hj) c (hk j s hj hne)
  · rcases mem_set hj with ⟨rfl, rfl, _⟩ | ⟨hn1, hj1⟩
    · rcases mem_set hj' with ⟨rfl, _, _⟩ | ⟨hn2, hj2⟩
      · exact hne rfl
      · exact hr' j' s' hj2 hn2 k hs hs'
    · rcases mem_set hj' with ⟨rfl, rfl, _⟩ | ⟨hn2, hj2⟩
      · exact hr' j s hj1 hn1 k hs' hs
      · exact h.apart j j' s s' hj1 hj2 hne k hs hs'
  · rcases mem_set hj with ⟨rfl, rfl, _⟩ | ⟨hne, hj⟩
    · rcases hf k hs with e | e
      · exact h.low j r hi k e
      · exact Nat.le_trans h.bz e
    · exact h.low j s hj k hs
theorem mem_app {L : List Res} {j : Nat} {r s : Res} (h : (L ++ [r])[j]? = some s) : (j = L.length ∧ s = r) ∨ L[j]? = some s := by
  rw [List.getElem?_append] at h
  split at h
  · exact .inr h
  · have hj : j - L.length = 0 := by
      have := (List.getElem?_eq_some_iff.1 h).1
      simp at this
      omega
    rw [hj] at h
    simp at h
    exact .inl ⟨by omega, h.symm⟩
/-- A new thing. -/
theorem Mem.add (h : Mem B w0 L w) (r : Res) (c : Ch (fun _ => False) w w') (h' : r.holds w') (hf : ∀ k, r.foot k → w.heap.size ≤ k) : Mem B w0 (L ++ [r]) w' := by
  have hk := h.keep c
  have no : ∀ (j : Nat) (s : Res), L[j]? = some s → ∀ k, s.foot k → ¬ r.foot k := fun j s hj k hs hr => by
    have := s.lt (h.each j s hj) k hs
    have := hf k hr
    omega
  refine ⟨fun j s hj => ?_, fun j j' s s' hj hj' hne k hs hs' => ?_, fun j s hj k hs => ?_, hk.bel, hk.bz⟩
  · rcases mem_app hj with ⟨_, rfl⟩ | hj
    · exact h'
    · exact hk.each j s hj
  · rcases mem_app hj with ⟨rfl, rfl⟩ | hj1
    · rcases mem_app hj' with ⟨rfl, _⟩ | hj2
      · exact hne rfl
      · exact no j' s' hj2 k hs' hs
    · rcases mem_app hj' with ⟨rfl, rfl⟩ | hj2
      · exact no j s hj1 k hs hs'
      · exact h.apart j j' s s' hj1 hj2 hne k hs hs'
  · rcases mem_app hj with ⟨_, rfl⟩ | hj
    · exact Nat.le_trans h.bz (hf k hs)
    · exact h.low j s hj k hs
/-- A cell of a block is set. -/
theorem Mem.put (h : Mem B w0 L w) {i g : Nat} {t : TypeId} {cs : Array Value} (hi : L[i]? = some (blkR g t cs)) (o : Nat) (u : Value) : Mem B w0 (L.set i (blkR g t (cs.setIfInBounds o u))) (w.setCell ⟨g, o, none⟩ u) :=
  h.upd (blkR g t (cs.setIfInBounds o u)) hi ((Ch.refl (fun k => k = g) w).set (fun _ => rfl) u) (fun _ _ e => e) (Blk.put (h.each i _ hi) o u) (fun _ e => .inl e)
/-- An append onto a row. -/
theorem Mem.app (h : Mem B w0 L w) {i e size n n' : Nat} {v v' : Value} {xs xs' : List Value} (hi : L[i]? = some (rowR B e size n v xs)) (hr : w'.ownsRow B e size v' n' xs') (hg : w.grownBy w' v.ownBlock) (hf : Fresh w v v') :
    Mem B w0 (L.set i (rowR B e size n' v' xs')) w' := by
  refine h.upd (rowR B e size n' v' xs') hi ((Ch.refl (fun k => v.ownBlock = some k) w).grown hg (fun k hk _ => hk)) (fun _ _ e => e) hr (fun k hk => ?_)
  rcases hf with e | e
  · exact .inl (by show v.ownBlock = some k; rw [← e]; exact hk)
  · exact .inr (e k hk)
theorem Mem.nil (hB : B ≤ w.heap.size) (hb : Below B w0 w) : Mem B w0 [] w := ⟨fun i r h => by simp at h, fun i j r s h => by simp at h, fun i r h => by simp at h, hb, hB⟩
end
theorem Mem.of {B : Nat} {w0 w : World} {L : List Res} (h1 : ∀ r ∈ L, r.holds w) (h2 : L.Pairwise fun r s => ∀ k, r.foot k → ¬ s.foot k) (h3 : ∀ r ∈ L, ∀ k, r.foot k → B ≤ k) (h4 : Below B w0 w) (h5 : B ≤ w.heap.size) : Mem B w0 L w := by
  refine ⟨fun i r hi => h1 r (List.mem_of_getElem? hi), fun i j r s hi hj hij k hk hs => ?_, fun i r hi => h3 r (List.mem_of_getElem? hi), h4, h5⟩
  have hp := List.pairwise_iff_getElem.1 h2
  obtain ⟨li, ri⟩ := List.getElem?_eq_some_iff.1 hi
  obtain ⟨lj, rj⟩ := List.getElem?_eq_some_iff.1 hj
  rcases Nat.lt_or_gt_of_ne hij with h | h
  · exact hp i j li lj h k (by rw [ri]; exact hk) (by rw [rj]; exact hs)
  · exact hp j i lj li h k (by rw [rj]; exact hs) (by rw [ri]; exact hk)
theorem Mem.addK {B : Nat} {w0 w : World} {L : List Res} (h : Mem B w0 L w) (r : Res) (h' : r.holds w) (ha : ∀ (i : Nat) (s : Res), L[i]? = some s → ∀ k, s.foot k → ¬ r.foot k) (hl : ∀ k, r.foot k → B ≤ k) : Mem B w0 (L ++ [r]) w := by
  refine ⟨fun j s hj => ?_, fun j j' s s' hj hj' hne k hs hs' => ?_, fun j s hj k hs => ?_, h.bel, h.bz⟩
  · rcases mem_app hj with ⟨_, rfl⟩ | hj
    · exact h'
    · exact h.each j s hj
  · rcases mem_app hj with ⟨rfl, rfl⟩ | hj1
    · rcases mem_app hj' with ⟨rfl, _⟩ | hj2
      · exact hne rfl
      · exact ha j' s' hj2 k hs' hs
    · rcases mem_app hj' with ⟨rfl, rfl⟩ | hj2
      · exact ha j s hj1 k hs hs'
      · exact h.apart j j' s s' hj1 hj2 hne k hs hs'
  · rcases mem_app hj with ⟨_, rfl⟩ | hj
    · exact hl k hs
    · exact h.low j s hj k hs
theorem Mem.ch {B : Nat} {w0 w : World} {L : List Res} (h : Mem B w0 L w) (hB : B = w0.heap.size) : Ch (fun _ => False) w0 w := ⟨h.bel.os, h.bel.tape, h.bel.output, h.bel.size, fun k hk _ => h.bel.block k (by omega)⟩
theorem Mem.take {B : Nat} {w0 w : World} {L : List Res} (n : Nat) (h : Mem B w0 L w) : Mem B w0 (L.take n) w := by
  have hg : ∀ (i : Nat) (r : Res), (L.take n)[i]? = some r → L[i]? = some r := fun i r hi => by
    rw [List.getElem?_take] at hi
    split at hi
    · exact hi
    · cases hi
  exact ⟨fun i r hi => h.each i r (hg i r hi), fun i j r s hi hj => h.apart i j r s (hg i r hi) (hg j s hj), fun i r hi => h.low i r (hg i r hi), h.bel, h.bz⟩
theorem Mem.perm {B : Nat} {w0 w : World} {L L' : List Res} (h : Mem B w0 L w) (p : L.Perm L') : Mem B w0 L' w := by
  refine Mem.of (fun r hr => ?_) ?_ (fun r hr => ?_) h.bel h.bz
  · obtain ⟨i, hi⟩ := List.getElem?_of_mem (p.mem_iff.2 hr)
    exact h.each i r hi
  · refine (p.pairwise_iff (fun {x y} hxy k hk hk' => hxy k hk' hk)).1 ?_
    refine List.pairwise_iff_getElem.2 fun i j hi hj hij k hk => ?_
    exact h.apart i j _ _ (List.getElem?_eq_getElem hi) (List.getElem?_eq_getElem hj) (by omega) k hk
  · obtain ⟨i, hi⟩ := List.getElem?_of_mem (p.mem_iff.2 hr)
    exact h.low i r hi
theorem Mem.cons {B : Nat} {w0 w w' : World} {L : List Res} (h : Mem B w0 L w) (r : Res) (c : Ch (fun _ => False) w w') (h' : r.holds w') (hf : ∀ k, r.foot k → w.heap.size ≤ k) : Mem B w0 (r :: L) w' :=
  (h.add r c h' hf).perm (List.perm_append_singleton r L)
theorem Mem.drop {B : Nat} {w0 w : World} {L : List Res} (n : Nat) (h : Mem B w0 L w) : Mem B w0 (L.drop n) w :=
  ⟨fun i r hi => h.each (n + i) r (by rwa [List.getElem?_drop] at hi), fun i j r s hi hj hij => h.apart (n + i) (n + j) r s (by rwa [List.getElem?_drop] at hi) (by rwa [List.getElem?_drop] at hj) (by omega), fun i r hi => h.low (n + i) r (by rwa [List.getElem?_drop] at hi), h.bel, h.bz⟩
end Go.Proofs.YtefpabicgefciaaGreat
namespace Go.Proofs.YtefpabicgefciaaGreat
open Go.RowKit
set_option linter.unusedVariables false
set_option linter.unusedSimpArgs false
set_option linter.unusedSectionVars false
/-- append(b, s...) onto a slice of the call's own; whether its block is the old one or new. -/
theorem wpList_app_str {P : Program} (w : World) {ops : Array Oper} {rest : List Oper} {o : Oper} {a : Act} {Q : Exit → Act → World → Prop} (hgd : o.guard = none) (sl x : Operand) (t u : TypeId)
    (ho : o.op = .call { callee := .builtin .append, args := #[sl, x], argTypes := #[t, u] }) (base : Nat) (e : TypeId) (i : TypeInfo) (ht : P.underlying t = some (.slice e)) (hu : P.underlying u = some .string) (hi : P.info? e = some i) (hz : i.zero = some (.int .u8 0))
    (hsize : i.size = 1) (hby : i.bytes = 1) (v : Value) (n : Nat) (xs : List Value) (hs : a.eval sl = v) (hown : w.ownsRow base e 1 v n xs) (s : ByteArray) (hx : a.eval x = .string s)
    (h63 : n + s.size ≤ 1000000000) (hbase : base ≤ w.heap.size)
    (h : ∀ v' w', w'.ownsRow base e 1 v' (n + s.size) (xs ++ Lib.strCells s) → w.grownBy w' v.ownBlock → Fresh w v v' → (v' = .slice none 0 0 ↔ v = .slice none 0 0 ∧ s.size = 0) → wpList P ops Q rest (a.put o.dst v') w') : wpList P ops Q (o :: rest) a w := by
  have hf : ∀ v' w', (Builtin.append_ #[t, u] o.type #[v, .string s]).run P w = .ok v' w' → w'.ownsRow base e 1 v' (n + s.size) (xs ++ Lib.strCells s) → w.grownBy w' v.ownBlock → Fresh w v v' := by
    intro v' w' hr h1 h2
    rcases hown.2 with ⟨rfl, rfl⟩ | ⟨g, cap, cur, rfl, hbg, hg, hnc, hcm, hcs, htake⟩
    · have hx0 : xs = [] := by simpa using hown.1
      subst hx0
      obtain ⟨v2, w2, hr2, h3, _, _⟩ := Lib.run_append_own_string (P := P) w w.heap.size t u o.type e i ht hu hi hz hsize hby (.slice none 0 0) 0 [] (World.ownsRow_nil w _ e 1) s (by unfold maxLen; omega) (by omega) (Nat.le_refl _)
      rw [hr] at hr2
      injection hr2 with e1 e2
      subst e1 e2
      exact .inr fun k hk => (h3.lt k hk).1
    · by_cases hroom : n + s.size ≤ cap
      · have hr2 := Lib.run_append_room_string (P := P) w t u o.type e i ht hu hi hsize g n cap cur hg s hroom (by omega)
        rw [hr] at hr2
        injection hr2 with e1 e2
        subst e1
        exact .inl rfl
      · have hr2 := Lib.run_append_grow_string (P := P) w t u o.type e i (.int .u8 0) ht hu hi hz ⟨g, 0, none⟩ n cap xs (by rw [hsize]; simpa using hown.1) (hown.cells (g := g) rfl) s (by omega) (by omega) (by rw [hby]; exact growslice_fits (by omega) (by omega))
        rw [hr] at hr2
        injection hr2 with e1 e2
        subst e1
        exact .inr fun k hk => by injection hk with hk; exact Nat.le_of_eq hk
  refine wpList_plain hgd fun K hK => ?_
  obtain ⟨v', w', hr, h2, h3, h4⟩ := Lib.run_append_own_string (P := P) w base t u o.type e i ht hu hi hz hsize hby v n xs hown s (by unfold maxLen; omega) (by omega) hbase
  have hF := hf v' w' hr h2 h3
  unfold Oper.wp execOp
  simp only [ho, resolve, invoke, builtin, Sem.run_bind, Sem.run_pure, Result.andThen_ok, List.map_toArray, List.map_cons, List.map_nil, hs, hx, hr]
  exact hK _ _ (h v' w' h2 h3 hF h4)
/-- A builder in memory: has it been written to, its bytes. -/
structure BldM (B : Nat) (w : World) (b : Nat) (us : Bool) (v : Value) (l : List UInt8) : Prop where
  hb : Blk w b 279 #[if us then .pointer (some ⟨b, 0, none⟩) else .pointer none, v]
  ho : w.ownsRow B 5 1 v l.length (Lib.byteCells l)
  hB : B ≤ b
  nl : l = [] → v = .slice none 0 0
theorem BldM.ne {B : Nat} {w : World} {b : Nat} {us : Bool} {v : Value} {l : List UInt8} (h : BldM B w b us v l) : v.ownBlock ≠ some b := h.hb.own h.ho (by decide)
def bldR (B b : Nat) (us : Bool) (v : Value) (l : List UInt8) : Res where
  holds w := BldM B w b us v l
  foot k := k = b ∨ v.ownBlock = some k
  stable h c hn := ⟨c.blk h.hb (hn _ (.inl rfl)), c.own h.ho (fun k hk => hn k (.inr hk)), h.hB, h.nl⟩
  lt h k hk := by
    rcases hk with rfl | hk
    · exact h.hb.lt
    · exact (h.ho.lt k hk).2
theorem BldM.new {B : Nat} (w : World) (hB : B ≤ w.heap.size) : BldM B (w.alloc (.cells #[.pointer none, .slice none 0 0] 279)) w.heap.size false (.slice none 0 0) [] :=
  ⟨Blk.new w _ _, World.ownsRow_nil _ _ _ _, hB, fun _ => rfl⟩
set_option maxRecDepth 100000 in
theorem copyCheck_any (B b : Nat) (us : Bool) (v : Value) (l : List UInt8) (w : World) (h : BldM B w b us v l) : Calls Tryz.prog 172 #[.pointer (some ⟨b, 0, none⟩)] w fun e w' => e = .returned (.tuple #[]) ∧ BldM B w' b true v l ∧ Ch (fun k => k = b) w w' := by
  have hsz : (Tryz.prog.info? 279).map (·.size) = some 2 := by kernel_rfl
  obtain ⟨j, hj, hjs⟩ := Option.map_eq_some_iff.1 hsz
  have hl := h.hb.lt
  have c0 : w.cell? ⟨b, 0, none⟩ = some (if us then .pointer (some ⟨b, 0, none⟩) else .pointer none) := h.hb.cell 0
  have f0 := h.hb.free 0
  have hsh : w.shape? b = some (279, 2) := by
    have := h.hb
    unfold Blk at this
    simp [World.shape?, this]
  have H := hid h
  clear h
  cases us with
  | true =>
    simp only [if_true] at c0
    go_enter Tryz.func172, Tryz.ntmps172
    go_wp2
    rw [Lib.run_neq_ptr_same w _ Tryz.underlying276 hj]
    go_wp2
    go_end0
    exact ⟨rfl, H.out, Ch.refl _ _⟩
  | false =>
    simp only [Bool.false_eq_true, if_false] at c0
    go_enter Tryz.func172, Tryz.ntmps172
    go_wp2
    rw [Lib.run_to_unsafe w ⟨b, 0, none⟩ Tryz.underlying276 Tryz.underlying329 hj (by rw [hjs]; decide) hsh (Nat.zero_lt_succ 1)]
    simp only [Result.andThen]
    rw [Oper.upon_value]
    go_wp2
    rw [run_callFunc_extern Tryz.func192 (by kernel_rfl) (by kernel_rfl) (by kernel_rfl) (e := Extern.AbiNoEscape.same) (by kernel_rfl)]
    rw [Lib.run_noEscape]
    simp only [Result.andThen]
    rw [Oper.upon_value]
    go_wp2
    rw [Lib.run_from_unsafe w ⟨b, 0, none⟩ Tryz.underlying329 Tryz.underlying276 hj hsh (by kernel_rfl)]
    simp only [Result.andThen]
    rw [Oper.upon_value]
    go_wp2
    go_end0
    have hc := (Ch.refl (fun k => k = b) w).set (b := b) (o := 0) (fun _ => rfl) (.pointer (some ⟨b, 0, none⟩))
    exact ⟨rfl, ⟨H.out.hb.put 0 _, hc.own H.out.ho (fun k hk e => H.out.ne (by rw [hk, e])), H.out.hB, H.out.nl⟩, hc⟩
set_option maxRecDepth 100000 in
set_option maxHeartbeats 1000000 in
theorem writeStr_any (B b : Nat) (us : Bool) (v : Value) (l : List UInt8) (s : ByteArray) (w : World) (h : BldM B w b us v l) (hBw : B ≤ w.heap.size) (hl : l.length + s.size ≤ 1000000000) :
    Calls Tryz.prog 147 #[.pointer (some ⟨b, 0, none⟩), .string s] w fun e w' => ∃ v', e = .returned (.tuple #[.int .i64 s.size, .nilIface]) ∧ BldM B w' b true v' (l ++ s.data.toList) ∧ Ch (fun k => k = b ∨ v.ownBlock = some k) w w' ∧ Fresh w v v' := by
  obtain ⟨i0, hi, hz0, hz1, hz2⟩ := info_parts (show (Tryz.prog.info? 5).map (fun i => (i.zero, i.size, i.bytes)) = some (some (Value.int .u8 0), 1, 1) by kernel_rfl)
  have H := hid h
  clear h
  go_enter Tryz.func147, Tryz.ntmps147
  go_wp2_with fail
  refine (copyCheck_any B b us v l w H.out).mono ?_
  rintro e w1 ⟨rfl, h1, hc1⟩
  have H1 := hid h1
  have C1 := hid hc1
  have hlt := h1.hb.lt
  have f1 := h1.hb.free 1
  obtain ⟨av, nv, hvs, _⟩ := own_slice h1.ho
  have c1 : w1.cell? ⟨b, 1, none⟩ = some v := h1.hb.cell 1
  have HV := hid hvs
  clear h1 hc1 hvs
  rw [HV.out] at c1
  go_wp2_with (at_builtin; refine wpList_app_str _ rfl (.tmp 12) (.tmp 13) 277 9 rfl B 5 i0 Tryz.underlying277 Tryz.underlying9 hi hz0 hz1 hz2 _ _ _ rfl (HV.out ▸ H1.out.ho) s rfl ?c1 ?c2 ?c3)
  case c1 => exact hl
  case c2 => exact Nat.le_trans hBw C1.out.size
  case c3 =>
    intro v' w2 hown hgrow hfresh hnil
    obtain ⟨av', nv', hvs', _⟩ := own_slice hown
    subst hvs'
    have hne : (Value.slice av l.length nv).ownBlock ≠ some b := by rw [← HV.out]; exact H1.out.ne
    have HB2 := hid (H1.out.hb.grown hgrow (fun e => hne e))
    have HG := hid hgrow
    have HO := hid hown
    have HF := hid hfresh
    have HN := hid hnil
    have d1 : w2.cell? ⟨b, 1, none⟩ = some v := HB2.out.cell 1
    have g1 := HB2.out.free 1
    rw [HV.out] at d1
    clear c1 f1 hown hgrow hfresh hnil
    go_wp2_with fail
    go_ret2
    have hc2 : Ch (fun k => k = b ∨ v.ownBlock = some k) w w2 := (C1.out.mono (fun _ _ e => .inl e)).grown HG.out (fun k hk _ => .inr (by rw [HV.out]; exact hk))
    have hne2 : (Value.slice av' (l.length + s.size) nv').ownBlock ≠ some b := by
      intro e
      have t := HB2.out.own HO.out (by decide)
      exact t e
    have hc3 := (Ch.refl (fun k => k = b) w2).set (b := b) (o := 1) (fun _ => rfl) (.slice av' (l.length + s.size) nv')
    have hlen : (l ++ s.data.toList).length = l.length + s.size := by rw [List.length_append, Array.length_toList]; rfl
    have hbc : Lib.byteCells (l ++ s.data.toList) = Lib.byteCells l ++ Lib.strCells s := by simp [Lib.byteCells, Lib.strCells]
    refine ⟨rfl, .slice av' (l.length + s.size) nv', ⟨HB2.out.put 1 _, ?_, H.out.hB, ?_⟩, hc2.set (fun _ => .inl rfl) _, ?_⟩
    · rw [hlen, hbc]
      exact hc3.own HO.out (fun k hk e => hne2 (by rw [hk, e]))
    · intro e
      have e0 : l = [] := (List.append_eq_nil_iff.1 e).1
      have e1 : s.size = 0 := by
        have e2 := (List.append_eq_nil_iff.1 e).2
        have e3 : s.data.toList.length = 0 := by rw [e2]; rfl
        rw [Array.length_toList] at e3
        exact e3
      have e3 := (HV.out).symm.trans (H.out.nl e0)
      injection e3 with a1 a2 a3
      exact HN.out.2 ⟨⟨a1, e0, a3⟩, by apply ByteArray.ext; exact Array.eq_empty_of_size_eq_zero e1⟩
    · rw [HV.out]
      rcases HF.out with e | e
      · exact .inl e
      · exact .inr (fun k hk => Nat.le_trans C1.out.size (e k hk))
set_option maxRecDepth 100000 in
theorem bldLen_any (B b : Nat) (us : Bool) (v : Value) (l : List UInt8) (w : World) (h : BldM B w b us v l) : Calls Tryz.prog 184 #[.pointer (some ⟨b, 0, none⟩)] w fun e w' => e = .returned (.int .i64 (l.length : Int)) ∧ w = w' := by
  have hlt := h.hb.lt
  obtain ⟨av, nv, hvs, _⟩ := own_slice h.ho
  subst hvs
  have c1 : w.cell? ⟨b, 1, none⟩ = some (.slice av l.length nv) := h.hb.cell 1
  clear h
  go_enter Tryz.func184, Tryz.ntmps184
  go_wp2_with fail
  go_ret
  exact ⟨rfl, rfl⟩
set_option maxRecDepth 100000 in
theorem bldReset_any (b : Nat) (cs : Array Value) (w : World) (h : Blk w b 279 cs) (hs : cs.size = 2) : Calls Tryz.prog 185 #[.pointer (some ⟨b, 0, none⟩)] w fun e w' => e = .returned (.tuple #[]) ∧ Blk w' b 279 #[.pointer none, .slice none 0 0] ∧ Ch (fun k => k = b) w w' := by
  have hlt := h.lt
  obtain ⟨x, y, rfl⟩ : ∃ x y, cs = #[x, y] := by
    obtain ⟨l⟩ := cs
    match l, hs with
    | [x, y], _ => exact ⟨x, y, rfl⟩
  have c0 : w.cell? ⟨b, 0, none⟩ = some x := h.cell 0
  have c1 : w.cell? ⟨b, 1, none⟩ = some y := h.cell 1
  have f0 := h.free 0
  have f1 := h.free 1
  have H := hid h
  clear h
  go_enter Tryz.func185, Tryz.ntmps185
  go_wp2_with fail
  go_end0
  exact ⟨rfl, (H.out.put 0 _).put 1 _, ((Ch.refl (fun k => k = b) w).set (fun _ => rfl) _).set (fun _ => rfl) _⟩
theorem freeze_ch {w : World} {g n : Nat} : Ch (fun k => k = g) w (w.freeze ⟨g, 0, none⟩ n) := by
  unfold World.freeze
  split
  · exact Ch.refl _ _
  · exact ⟨rfl, rfl, rfl, by simp, fun k hk hn => by
      simp only [Array.getElem?_modify]
      rw [if_neg (fun e => hn e.symm)]⟩
theorem exec_sliceData {o : Oper} {a : Act} {s : Operand} {ts : TypeId} (ho : o.op = .call { callee := .builtin .unsafeSliceData, args := #[s], argTypes := #[ts] }) {v r : Value} (hs : a.eval s = v) {W : World} (hr : (Builtin.unsafeSliceData_ #[ts] o.type #[v]).run Tryz.prog W = .ok r W) : (execOp a.eval o).run Tryz.prog W = .ok (.value r) W := by
  simp [execOp, ho, resolve, invoke, builtin, hs, hr]
set_option maxRecDepth 100000 in
set_option maxHeartbeats 1000000 in
theorem bldString_any (B b : Nat) (us : Bool) (v : Value) (l : List UInt8) (w : World) (h : BldM B w b us v l) (hl : l.length ≤ 1000000000) : Calls Tryz.prog 150 #[.pointer (some ⟨b, 0, none⟩)] w fun e w' => e = .returned (.string ⟨l.toArray⟩) ∧ Ch (fun k => v.ownBlock = some k) w w' := by
  have hlt := h.hb.lt
  have H := hid h
  by_cases h0 : l = []
  · have hv := h.nl h0
    subst h0 hv
    have c1 : w.cell? ⟨b, 1, none⟩ = some (.slice none 0 0) := h.hb.cell 1
    have hUS : ∀ W : World, (Builtin.unsafeString_ #[315, 3] 9 #[.pointer none, .int .i64 0]).run Tryz.prog W = .ok (.string .empty) W := fun W => Lib.run_unsafeString_none W _ _ _ none
    have hSD : ∀ W : World, (Builtin.unsafeSliceData_ #[277] 315 #[.slice none 0 0]).run Tryz.prog W = .ok (.pointer none) W := fun W => rfl
    clear h
    go_enter Tryz.func150, Tryz.ntmps150
    go_wp2_with fail
    refine Mix.wp_region_mix (fun _ => True) (fun i => ([0, 0, 0, 0, 0, 0, 0, 0, 0, 0, 2, 0] : List Nat).getD i 0) [0, 1, 2, 3, 5, 6, 7, 8, 9, 4, 10, 11] (by kernel_rfl) (by kernel_rfl) ?_
    iterate 9 (first | (refine Mix.mix_q (by simp only [List.getElem?_toArray, List.getElem?_cons_zero, List.getElem?_cons_succ]; exact rfl) rfl ?_; go_big_quiet_step (fail); refine wpQuiet_nil ?_) | (refine Mix.mix_p (by simp only [List.getElem?_toArray, List.getElem?_cons_zero, List.getElem?_cons_succ]; exact rfl) rfl rfl ?_; go_big_quiet_step (fail); refine wpQuiet_nil ?_))
    refine Mix.mix_v (by simp only [List.getElem?_toArray, List.getElem?_cons_zero, List.getElem?_cons_succ]; exact rfl) rfl (.pointer none) rfl (fun W _ => exec_sliceData rfl rfl (hSD W)) ?_
    simp only [Act.put, List.setIfInBounds_toArray, List.set_cons_succ, List.set_cons_zero]
    refine Mix.mix_e (by simp only [List.getElem?_toArray, List.getElem?_cons_zero, List.getElem?_cons_succ]; exact rfl) rfl fun W1 hW1 => ?_
    obtain ⟨k1, rfl⟩ := hW1
    go_wp2_with fail
    repeat (first | (refine Mix.mix_q (by simp only [List.getElem?_toArray, List.getElem?_cons_zero, List.getElem?_cons_succ]; exact rfl) rfl ?_; go_big_quiet_step (fail); refine wpQuiet_nil ?_) | (refine Mix.mix_p (by simp only [List.getElem?_toArray, List.getElem?_cons_zero, List.getElem?_cons_succ]; exact rfl) rfl rfl ?_; go_big_quiet_step (fail); refine wpQuiet_nil ?_) | (refine Mix.mix_s (by simp only [List.getElem?_toArray, List.getElem?_cons_zero, List.getElem?_cons_succ]; exact rfl) rfl rfl ?_; go_big_quiet_step (fail); refine wpQuiet_nil ?_))
    intro k2
    go_wp2_with fail
    go_ret
    exact ⟨rfl, ((Ch.refl _ w).drewN _).drewN _⟩
  · have hl0 : l.length ≠ 0 := by simpa using h0
    obtain ⟨g, cap, cur, hv, hbg, hg, hnc, hcm, hcs, htake⟩ : ∃ g cap cur, v = .slice (some ⟨g, 0, none⟩) l.length cap ∧ B ≤ g ∧ w.heap[g]? = some (.cells cur 5 (0, 0)) ∧ l.length ≤ cap ∧ cap ≤ maxLen ∧ cur.size = cap * 1 ∧ cur.toList.take (l.length * 1) = Lib.byteCells l := by
      rcases h.ho.2 with ⟨_, hz⟩ | ⟨g, cap, cur, hv, r⟩
      · exact absurd hz hl0
      · exact ⟨g, cap, cur, hv, r⟩
    have c1 : w.cell? ⟨b, 1, none⟩ = some (.slice (some ⟨g, 0, none⟩) l.length cap) := by rw [← hv]; exact h.hb.cell 1
    have hSD : ∀ W : World, (Builtin.unsafeSliceData_ #[277] 315 #[.slice (some ⟨g, 0, none⟩) l.length cap]).run Tryz.prog W = .ok (.pointer (some ⟨g, 0, none⟩)) W := fun W => Lib.run_unsafeSliceData_row _ _ _ _ _ _ (by omega)
    have hUS : ∀ k, (Builtin.unsafeString_ #[315, 3] 9 #[.pointer (some ⟨g, 0, none⟩), .int .i64 l.length]).run Tryz.prog (w.drewN k) = .ok (.string ⟨l.toArray⟩) ((w.drewN k).freeze ⟨g, 0, none⟩ l.length) := fun k => by
      refine Lib.run_unsafeString_row (w.drewN k) 315 3 9 5 Tryz.underlying315 (by kernel_rfl) g cur.size (by simp [World.shape?, hg]) l h0 (by omega) (by unfold maxLen at hcm; omega) ?_
      intro j x hx
      have := (hv ▸ h.ho).cells (g := g) rfl j (.int .u8 x.toNat) (by simp [Lib.byteCells, hx])
      exact this
    have HV := hid hv
    clear h hv hg
    go_enter Tryz.func150, Tryz.ntmps150
    go_wp2_with fail
    refine Mix.wp_region_mix (fun _ => True) (fun i => ([0, 0, 0, 0, 0, 0, 0, 0, 0, 0, 2, 0] : List Nat).getD i 0) [0, 1, 2, 3, 5, 6, 7, 8, 9, 4, 10, 11] (by kernel_rfl) (by kernel_rfl) ?_
    iterate 9 (first | (refine Mix.mix_q (by simp only [List.getElem?_toArray, List.getElem?_cons_zero, List.getElem?_cons_succ]; exact rfl) rfl ?_; go_big_quiet_step (fail); refine wpQuiet_nil ?_) | (refine Mix.mix_p (by simp only [List.getElem?_toArray, List.getElem?_cons_zero, List.getElem?_cons_succ]; exact rfl) rfl rfl ?_; go_big_quiet_step (fail); refine wpQuiet_nil ?_))
    refine Mix.mix_v (by simp only [List.getElem?_toArray, List.getElem?_cons_zero, List.getElem?_cons_succ]; exact rfl) rfl (.pointer (some ⟨g, 0, none⟩)) rfl (fun W _ => exec_sliceData rfl rfl (hSD W)) ?_
    simp only [Act.put, List.setIfInBounds_toArray, List.set_cons_succ, List.set_cons_zero]
    refine Mix.mix_e (by simp only [List.getElem?_toArray, List.getElem?_cons_zero, List.getElem?_cons_succ]; exact rfl) rfl fun W1 hW1 => ?_
    obtain ⟨k1, rfl⟩ := hW1
    go_wp2_with fail
    repeat (first | (refine Mix.mix_q (by simp only [List.getElem?_toArray, List.getElem?_cons_zero, List.getElem?_cons_succ]; exact rfl) rfl ?_; go_big_quiet_step (fail); refine wpQuiet_nil ?_) | (refine Mix.mix_p (by simp only [List.getElem?_toArray, List.getElem?_cons_zero, List.getElem?_cons_succ]; exact rfl) rfl rfl ?_; go_big_quiet_step (fail); refine wpQuiet_nil ?_) | (refine Mix.mix_s (by simp only [List.getElem?_toArray, List.getElem?_cons_zero, List.getElem?_cons_succ]; exact rfl) rfl rfl ?_; go_big_quiet_step (fail); refine wpQuiet_nil ?_))
    intro k2
    go_wp2_with fail
    go_ret
    exact ⟨rfl, (((Ch.refl (fun _ => False) w).drewN k1).mono (fun _ _ e => e.elim) |>.trans (freeze_ch (g := g) (n := l.length)) (fun i _ e => by rw [HV.out, e]; rfl)).drewN _⟩
end Go.Proofs.YtefpabicgefciaaGreat
namespace Go.Proofs.YtefpabicgefciaaGreat
open Go.RowKit
set_option linter.unusedVariables false
set_option linter.unusedSimpArgs false
set_option linter.unusedSectionVars false
/-- What form's closure stands on. -/
def fmL (B bb : Nat) (us : Bool) (bv : Value) (t : List UInt8) (ob : Nat) (ov : Value) (gb : Nat) (g : Int) (out : List Pc) : List Res :=
  [bldR B bb us bv t, blkR ob 77 #[ov], blkR gb 3 #[.int .i64 g], rowR B 128 3 out.length ov (pcCells out)]
theorem pcCells_app (a b : List Pc) : pcCells (a ++ b) = pcCells a ++ pcCells b := by simp [pcCells]
theorem pcCells_one (x : Pc) : pcCells [x] = x.cells := by simp [pcCells]
set_option maxRecDepth 100000 in
set_option maxHeartbeats 4000000 in
theorem flush_any (B bb : Nat) (us : Bool) (bv : Value) (t : List UInt8) (ob : Nat) (ov : Value) (gb : Nat) (g : Int) (out : List Pc) (L2 : List Res) (w0 w : World) (h : Mem B w0 (fmL B bb us bv t ob ov gb g out ++ L2) w) (hg0 : 0 ≤ g) (hn : out.length ≤ 10000000) (ht : t.length ≤ 100000000) :
    Calls Tryz.prog 183 #[.pointer (some ⟨bb, 0, none⟩), .pointer (some ⟨ob, 0, none⟩), .pointer (some ⟨gb, 0, none⟩)] w fun e w' => e = .returned (.tuple #[]) ∧ ∃ us' bv' ov', Mem B w0 (fmL B bb us' bv' [] ob ov' gb 0 (out ++ Dl.gap t g) ++ L2) w' := by
  obtain ⟨i0, hi, hz0, hz1, hz2⟩ := info_parts infoPc
  obtain ⟨oa, oc, hov, _⟩ := own_slice (show w.ownsRow B 128 3 ov out.length (pcCells out) from h.each 3 _ rfl)
  subst hov
  have HBB := hid (show B ≤ bb from h.low 0 _ rfl bb (.inl rfl))
  have M0 := hid h
  clear h
  go_enter Tryz.func183, Tryz.ntmps183
  go_wp2_with fail
  refine (bldLen_any B bb us bv t w (M0.out.each 0 _ rfl)).mono ?_
  rintro e w' ⟨rfl, rfl⟩
  by_cases h0 : t = []
  · subst h0
    have dt : decide (((([] : List UInt8).length : Nat) : Int) > 0) = false := by simp
    by_cases hg : 0 < g
    · have dg : decide (0 < g) = true := decide_eq_true hg
      have g0 : w.cell? ⟨gb, 0, none⟩ = some (.int .i64 g) := Blk.cell (M0.out.each 2 _ rfl) 0
      have fg := Blk.free (M0.out.each 2 _ rfl) 0
      have o0 : w.cell? ⟨ob, 0, none⟩ = some (.slice oa out.length oc) := Blk.cell (M0.out.each 1 _ rfl) 0
      have fo := Blk.free (M0.out.each 1 _ rfl) 0
      have lg := Blk.lt (M0.out.each 2 _ rfl)
      have lo := Blk.lt (M0.out.each 1 _ rfl)
      have n1 : ob ≠ gb := Blk.ne (M0.out.each 1 _ rfl) (M0.out.each 2 _ rfl) (by decide)
      have n2 : gb ≠ ob := Ne.symm n1
      go_wp2_with (at_builtin; refine wpList_app _ rfl (.tmp 13) (.tmp 16) 77 rfl B 128 i0 _ 3 32 Tryz.underlying77 hi hz0 hz1 hz2 rfl (by decide) _ _ _ rfl ((((M0.out).alloc (.cells (Dl.delP g).cells.toArray 128)).each 3 _ rfl)) ⟨(w).heap.size, 0, none⟩ 1 1 (Dl.delP g).cells rfl rfl ?c11 ?c12 (by decide) ?c13 ?c14 ?c15 ?c16)
      case c11 => intro j u hu; rw [addr_add0]; exact (Blk.cell (Blk.new _ 128 (Dl.delP g).cells.toArray) j).trans (by simpa using hu)
      case c12 => exact fun u hu => pc_one [Dl.delP g] u (by simpa [pcCells] using hu)
      case c13 => unfold maxLen; omega
      case c14 => omega
      case c15 => exact Nat.le_trans M0.out.bz (by simp)
      case c16 =>
        intro v' w3 hown' hgrow hfresh
        obtain ⟨Ag, cg, hgv, hcg⟩ := own_slice hown'
        subst hgv
        have M3 := hid ((M0.out.alloc (.cells (Dl.delP g).cells.toArray 128)).app (i := 3) rfl hown' hgrow hfresh)
        have g0 : w3.cell? ⟨gb, 0, none⟩ = some (.int .i64 g) := Blk.cell (M3.out.each 2 _ rfl) 0
        have fg := Blk.free (M3.out.each 2 _ rfl) 0
        have o0 : w3.cell? ⟨ob, 0, none⟩ = some (.slice oa out.length oc) := Blk.cell (M3.out.each 1 _ rfl) 0
        have fo := Blk.free (M3.out.each 1 _ rfl) 0
        clear hown' hgrow hfresh
        have M4 := hid ((M3.out.put (i := 1) rfl 0 (.slice Ag (out.length + 1) cg)).put (i := 2) rfl 0 (.int .i64 0))
        go_wp2_with fail
        go_end0
        refine ⟨rfl, us, bv, .slice Ag (out.length + 1) cg, ?_⟩
        have e : out ++ Dl.gap [] g = out ++ [Dl.delP g] := by simp [Dl.gap, hg]
        rw [e]
        have t := M4.out
        simp only [fmL, List.length_append, List.length_cons, List.length_nil, pcCells_app, pcCells_one, List.append_assoc] at t ⊢
        exact t
    · have dg : decide (0 < g) = false := decide_eq_false hg
      have g0 : w.cell? ⟨gb, 0, none⟩ = some (.int .i64 g) := Blk.cell (M0.out.each 2 _ rfl) 0
      have lg := Blk.lt (M0.out.each 2 _ rfl)
      go_wp2_with fail
      go_end0
      refine ⟨rfl, us, bv, .slice oa out.length oc, ?_⟩
      have e : out ++ Dl.gap [] g = out := by simp [Dl.gap, hg]
      rw [e]
      have hz : g = 0 := by omega
      have t := M0.out
      rw [hz] at t
      simp only [fmL, List.length_append, List.length_cons, List.length_nil, pcCells_app, pcCells_one, List.append_assoc] at t ⊢
      exact t
  · have hl0 : 0 < t.length := List.length_pos_iff.2 h0
    have dt : decide ((0 : Int) < (t.length : Int)) = true := decide_eq_true (by omega)
    have dt2 : decide (0 < t.length) = true := decide_eq_true hl0
    go_wp2_with fail
    obtain ⟨S, hS⟩ : ∃ S : Nat → Prop, ∀ k, S k ↔ k = ob := ⟨_, fun _ => Iff.rfl⟩
    have hS1 : Mix.Has S ob := (hS _).2 rfl
    have HS := hid hS
    clear hS
    have o0 : w.cell? ⟨ob, 0, none⟩ = some (.slice oa out.length oc) := Blk.cell (M0.out.each 1 _ rfl) 0
    have lob := Blk.lt (M0.out.each 1 _ rfl)
    refine Mix.wp_region_mix S (fun i => ([4, 3, 0, 3, 2, 2] : List Nat).getD i 0) [0, 1, 2, 3, 4, 5] (by kernel_rfl) (by kernel_rfl) ?_
    first | (refine Mix.mix_s (by simp only [List.getElem?_toArray, List.getElem?_cons_zero, List.getElem?_cons_succ]; exact rfl) rfl rfl ?_; go_big_quiet_step (fail); refine wpQuiet_nil ?_) | (refine Mix.mix_q (by simp only [List.getElem?_toArray, List.getElem?_cons_zero, List.getElem?_cons_succ]; exact rfl) rfl ?_; go_big_quiet_step (fail); refine wpQuiet_nil ?_) | (refine Mix.mix_p (by simp only [List.getElem?_toArray, List.getElem?_cons_zero, List.getElem?_cons_succ]; exact rfl) rfl rfl ?_; go_big_quiet_step (fail); refine wpQuiet_nil ?_)
    refine Mix.mix_a (by simp only [List.getElem?_toArray, List.getElem?_cons_zero, List.getElem?_cons_succ]; exact rfl) rfl fun W1 hW1 => ?_
    obtain ⟨k1, rfl⟩ := hW1
    go_wp2_with fail
    refine (bldString_any B bb us bv t (w.drewN k1) ((M0.out.drewN k1).each 0 _ rfl) (by omega)).mono ?_
    rintro e w1 ⟨rfl, hc⟩
    have nob : bv.ownBlock ≠ some ob := fun e => M0.out.apart 0 1 _ _ rfl rfl (by decide) ob (.inr e) rfl
    have HB0 : BldM B (w.drewN k1) bb us bv t := (M0.out.drewN k1).each 0 _ rfl
    have M1 := hid ((M0.out.drewN k1).upd (blkR bb 279 #[if us then .pointer (some ⟨bb, 0, none⟩) else .pointer none, bv]) (i := 0) rfl hc (fun k _ e => .inr e) (hc.blk HB0.hb HB0.ne) (fun k e => .inl (.inl e)))
    go_wp2_with fail
    refine ⟨fun j hj => hc.block j (by rw [(HS.out j).1 hj]; exact lob) (by rw [(HS.out j).1 hj]; exact nob), ?_⟩
    clear hc HB0 o0
    first | (refine Mix.mix_q (by simp only [List.getElem?_toArray, List.getElem?_cons_zero, List.getElem?_cons_succ]; exact rfl) rfl ?_; go_big_quiet_step (fail); refine wpQuiet_nil ?_) | (refine Mix.mix_p (by simp only [List.getElem?_toArray, List.getElem?_cons_zero, List.getElem?_cons_succ]; exact rfl) rfl rfl ?_; go_big_quiet_step (fail); refine wpQuiet_nil ?_)
    refine Mix.mix_a (by simp only [List.getElem?_toArray, List.getElem?_cons_zero, List.getElem?_cons_succ]; exact rfl) rfl fun W2 hW2 => ?_
    obtain ⟨k2, rfl⟩ := hW2
    go_wp2_with fail
    refine ⟨fun j hj => (((Ch.refl (fun _ => False) w1).drewN k2).alloc _).block j (by rw [(HS.out j).1 hj]; exact Blk.lt (M1.out.each 1 _ rfl)) id, ?_⟩
    refine Mix.mix_world fun V2 hV2 => ?_
    have M2 := hid (show Mem B w0 ((blkR bb 279 #[if us then .pointer (some ⟨bb, 0, none⟩) else .pointer none, bv] :: blkR ob 77 #[.slice oa out.length oc] :: blkR gb 3 #[.int .i64 g] :: rowR B 128 3 out.length (.slice oa out.length oc) (pcCells out) :: L2)) V2 from by rw [hV2]; exact (M1.out.drewN k2).alloc _)
    have B2 := hid (show Blk V2 w1.heap.size 128 (Dl.insP t).cells.toArray from by rw [hV2]; exact Blk.new (w1.drewN k2) _ _)
    clear hV2
    refine Mix.mix_e (by simp only [List.getElem?_toArray, List.getElem?_cons_zero, List.getElem?_cons_succ]; exact rfl) rfl fun W3 hW3 => ?_
    obtain ⟨k3, rfl⟩ := hW3
    refine wpList_app _ rfl (.tmp 5) (.tmp 8) 77 rfl B 128 i0 _ 3 32 Tryz.underlying77 hi hz0 hz1 hz2 rfl (by decide) _ _ _ rfl ((M2.out.drewN k3).each 3 _ rfl) ⟨w1.heap.size, 0, none⟩ 1 1 (Dl.insP t).cells rfl rfl ?a1 ?a2 (by decide) ?a3 ?a4 ?a5 ?_
    case a1 => intro j u hu; rw [addr_add0]; exact (Blk.cell (B2.out.drewN k3) j).trans (by simpa using hu)
    case a2 => exact fun u hu => pc_one [Dl.insP t] u (by simpa [pcCells] using hu)
    case a3 => unfold maxLen; omega
    case a4 => omega
    case a5 => exact Nat.le_trans M2.out.bz (Nat.le_refl _)
    intro v' w3 hown' hgrow hfresh
    obtain ⟨Ai, ci, hiv, hci⟩ := own_slice hown'
    subst hiv
    have M3 := hid ((M2.out.drewN k3).app (i := 3) rfl hown' hgrow hfresh)
    have o0 : w3.cell? ⟨ob, 0, none⟩ = some (.slice oa out.length oc) := Blk.cell (M3.out.each 1 _ rfl) 0
    have fo := Blk.free (M3.out.each 1 _ rfl) 0
    have lo := Blk.lt (M3.out.each 1 _ rfl)
    clear hown' hgrow hfresh
    go_wp2_with fail
    refine Mix.mix_e (by simp only [List.getElem?_toArray, List.getElem?_cons_zero, List.getElem?_cons_succ]; exact rfl) rfl fun W4 hW4 => ?_
    obtain ⟨k4, rfl⟩ := hW4
    go_wp2_with fail
    intro k5
    refine at_world fun W5 hW5 => ?_
    have M5 := hid (show Mem B w0 (blkR bb 279 #[if us then .pointer (some ⟨bb, 0, none⟩) else .pointer none, bv] :: blkR ob 77 #[.slice Ai (out.length + 1) ci] :: blkR gb 3 #[.int .i64 g] :: rowR B 128 3 (out.length + 1) (.slice Ai (out.length + 1) ci) (pcCells out ++ (Dl.insP t).cells) :: L2) W5 from by rw [hW5]; exact ((M3.out.drewN k4).put (i := 1) rfl 0 (.slice Ai (out.length + 1) ci)).drewN k5)
    clear hW5 o0 fo
    go_wp2_with fail
    refine (bldReset_any bb _ W5 (M5.out.each 0 _ rfl) rfl).mono ?_
    rintro e w6 ⟨rfl, hb6, hc6⟩
    have M6 := hid (M5.out.upd (bldR B bb false (.slice none 0 0) []) (i := 0) rfl hc6 (fun k _ e => e) ⟨hb6, World.ownsRow_nil _ _ _ _, HBB.out, fun _ => rfl⟩ (fun k e => by rcases e with e | e; exact .inl e; simp [Value.ownBlock] at e))
    clear hb6 hc6
    by_cases hg : 0 < g
    · have dg : decide (0 < g) = true := decide_eq_true hg
      have g0 : w6.cell? ⟨gb, 0, none⟩ = some (.int .i64 g) := Blk.cell (M6.out.each 2 _ rfl) 0
      have fg := Blk.free (M6.out.each 2 _ rfl) 0
      have o0 : w6.cell? ⟨ob, 0, none⟩ = some (.slice Ai (out.length + 1) ci) := Blk.cell (M6.out.each 1 _ rfl) 0
      have fo := Blk.free (M6.out.each 1 _ rfl) 0
      have lg := Blk.lt (M6.out.each 2 _ rfl)
      have lo := Blk.lt (M6.out.each 1 _ rfl)
      have n1 : ob ≠ gb := Blk.ne (M6.out.each 1 _ rfl) (M6.out.each 2 _ rfl) (by decide)
      have n2 : gb ≠ ob := Ne.symm n1
      go_wp2_with (at_builtin; refine wpList_app _ rfl (.tmp 13) (.tmp 16) 77 rfl B 128 i0 _ 3 32 Tryz.underlying77 hi hz0 hz1 hz2 rfl (by decide) _ _ _ rfl ((((M6.out).alloc (.cells (Dl.delP g).cells.toArray 128)).each 3 _ rfl)) ⟨(w6).heap.size, 0, none⟩ 1 1 (Dl.delP g).cells rfl rfl ?c21 ?c22 (by decide) ?c23 ?c24 ?c25 ?c26)
      case c21 => intro j u hu; rw [addr_add0]; exact (Blk.cell (Blk.new _ 128 (Dl.delP g).cells.toArray) j).trans (by simpa using hu)
      case c22 => exact fun u hu => pc_one [Dl.delP g] u (by simpa [pcCells] using hu)
      case c23 => unfold maxLen; omega
      case c24 => omega
      case c25 => exact Nat.le_trans M6.out.bz (by simp)
      case c26 =>
        intro v' w3 hown' hgrow hfresh
        obtain ⟨Ag, cg, hgv, hcg⟩ := own_slice hown'
        subst hgv
        have M3 := hid ((M6.out.alloc (.cells (Dl.delP g).cells.toArray 128)).app (i := 3) rfl hown' hgrow hfresh)
        have g0 : w3.cell? ⟨gb, 0, none⟩ = some (.int .i64 g) := Blk.cell (M3.out.each 2 _ rfl) 0
        have fg := Blk.free (M3.out.each 2 _ rfl) 0
        have o0 : w3.cell? ⟨ob, 0, none⟩ = some (.slice Ai (out.length + 1) ci) := Blk.cell (M3.out.each 1 _ rfl) 0
        have fo := Blk.free (M3.out.each 1 _ rfl) 0
        clear hown' hgrow hfresh
        have M4 := hid ((M3.out.put (i := 1) rfl 0 (.slice Ag ((out.length + 1) + 1) cg)).put (i := 2) rfl 0 (.int .i64 0))
        go_wp2_with fail
        go_end0
        refine ⟨rfl, false, .slice none 0 0, .slice Ag ((out.length + 1) + 1) cg, ?_⟩
        have e : out ++ Dl.gap t g = (out ++ [Dl.insP t]) ++ [Dl.delP g] := by simp [Dl.gap, hg, h0]
        rw [e]
        have t := M4.out
        simp only [fmL, List.length_append, List.length_cons, List.length_nil, pcCells_app, pcCells_one, List.append_assoc] at t ⊢
        exact t
    · have dg : decide (0 < g) = false := decide_eq_false hg
      have g0 : w6.cell? ⟨gb, 0, none⟩ = some (.int .i64 g) := Blk.cell (M6.out.each 2 _ rfl) 0
      have lg := Blk.lt (M6.out.each 2 _ rfl)
      go_wp2_with fail
      go_end0
      refine ⟨rfl, false, .slice none 0 0, .slice Ai (out.length + 1) ci, ?_⟩
      have e : out ++ Dl.gap t g = (out ++ [Dl.insP t]) := by simp [Dl.gap, hg, h0]
      rw [e]
      have hz : g = 0 := by omega
      have t := M6.out
      rw [hz] at t
      simp only [fmL, List.length_append, List.length_cons, List.length_nil, pcCells_app, pcCells_one, List.append_assoc] at t ⊢
      exact t
end Go.Proofs.YtefpabicgefciaaGreat
