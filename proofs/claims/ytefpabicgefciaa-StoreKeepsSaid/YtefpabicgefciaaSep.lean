/- Memory as a list of things that lie apart. -/
import Derived.Test.YtefpabicgefciaaLib
namespace Go.Proofs.Ytefpabicgefciaa
open Go.RowKit
set_option linter.unusedVariables false
set_option linter.unusedSimpArgs false

/-- A thing in memory: what it says, and which blocks it stands on. -/
structure Res where
  holds : World → Prop
  foot : Nat → Prop
  stable : ∀ {w w' : World} {fp : Nat → Prop}, holds w → Ch fp w w' → (∀ k, foot k → ¬ fp k) → holds w'
  lt : ∀ {w : World}, holds w → ∀ k, foot k → k < w.heap.size

def blkR (g : Nat) (t : TypeId) (cs : Array Value) : Res where
  holds w := Blk w g t cs
  foot k := k = g
  stable h c hn := c.blk h (hn g rfl)
  lt h k hk := by rw [hk]; exact h.lt
def rowR (B : Nat) (e : TypeId) (size n : Nat) (v : Value) (xs : List Value) : Res where
  holds w := w.ownsRow B e size v n xs
  foot k := v.ownBlock = some k
  stable h c hn := c.own h hn
  lt h k hk := (h.lt k hk).2
/-- A fact without blocks. -/
def pureR (p : Prop) : Res where
  holds _ := p
  foot _ := False
  stable h _ _ := h
  lt _ _ h := h.elim

/-- The things of a list lie apart, above B; below B nothing has changed since w0. -/
structure Mem (B : Nat) (w0 : World) (L : List Res) (w : World) : Prop where
  each : ∀ (i : Nat) (r : Res), L[i]? = some r → r.holds w
  apart : ∀ (i j : Nat) (r s : Res), L[i]? = some r → L[j]? = some s → i ≠ j → ∀ k, r.foot k → ¬ s.foot k
  low : ∀ (i : Nat) (r : Res), L[i]? = some r → ∀ k, r.foot k → B ≤ k
  bel : Below B w0 w
  bz : B ≤ w.heap.size

theorem Ch.belowB {fp : Nat → Prop} {w w' : World} {B : Nat} (c : Ch fp w w') (hB : B ≤ w.heap.size) (hf : ∀ k, k < w.heap.size → fp k → B ≤ k) : Below B w w' :=
  ⟨c.os, c.tape, c.output, c.size, fun k hk => c.block k (by omega) (fun e => by have := hf k (by omega) e; omega)⟩

section
variable {B : Nat} {w0 w w' : World} {L : List Res} {fp : Nat → Prop}

theorem Mem.keep (h : Mem B w0 L w) (c : Ch (fun _ => False) w w') : Mem B w0 L w' :=
  ⟨fun i r hi => r.stable (h.each i r hi) c (fun _ _ => id), h.apart, h.low, h.bel.trans (c.belowB h.bz (fun _ _ e => e.elim)), Nat.le_trans h.bz c.size⟩
theorem Mem.drewN (h : Mem B w0 L w) (n : Nat) : Mem B w0 L (w.drewN n) := h.keep ((Ch.refl _ w).drewN n)
theorem Mem.drew (h : Mem B w0 L w) : Mem B w0 L w.drew := h.keep ((Ch.refl _ w).drew)
theorem Mem.alloc (h : Mem B w0 L w) (o : Obj) : Mem B w0 L (w.alloc o) := h.keep ((Ch.refl _ w).alloc o)

theorem mem_set {L : List Res} {i j : Nat} {r s : Res} (h : (L.set i r)[j]? = some s) : (j = i ∧ s = r ∧ i < L.length) ∨ (j ≠ i ∧ L[j]? = some s) := by
  rw [List.getElem?_set] at h
  split at h
  · rename_i e
    split at h
    · rename_i hl
      exact .inl ⟨e.symm, (Option.some.inj h).symm, hl⟩
    · cases h
  · rename_i e
    exact .inr ⟨fun e' => e e'.symm, h⟩

/-- One thing has changed. -/
theorem Mem.upd (h : Mem B w0 L w) {i : Nat} {r : Res} (r' : Res) (hi : L[i]? = some r) (c : Ch fp w w') (hfp : ∀ k, k < w.heap.size → fp k → r.foot k) (h' : r'.holds w') (hf : ∀ k, r'.foot k → r.foot k ∨ w.heap.size ≤ k) : Mem B w0 (L.set i r') w' := by
  have hk : ∀ (j : Nat) (s : Res), L[j]? = some s → j ≠ i → ∀ k, s.foot k → ¬ fp k := fun j s hj hne k hs hp => h.apart i j r s hi hj (Ne.symm hne) k (hfp k (s.lt (h.each j s hj) k hs) hp) hs
  have hr' : ∀ (j : Nat) (s : Res), L[j]? = some s → j ≠ i → ∀ k, r'.foot k → ¬ s.foot k := fun j s hj hne k hr hs => by
    rcases hf k hr with e | e
    · exact h.apart i j r s hi hj (Ne.symm hne) k e hs
    · have := s.lt (h.each j s hj) k hs
      omega
  refine ⟨fun j s hj => ?_, fun j j' s s' hj hj' hne k hs hs' => ?_, fun j s hj k hs => ?_, h.bel.trans (c.belowB h.bz (fun k hk hp => h.low i r hi k (hfp k hk hp))), Nat.le_trans h.bz c.size⟩
  · rcases mem_set hj with ⟨rfl, rfl, _⟩ | ⟨hne, hj⟩
    · exact h'
    · exact s.stable (h.each j s hj) c (hk j s hj hne)
  · rcases mem_set hj with ⟨rfl, rfl, _⟩ | ⟨hn1, hj1⟩
    · rcases mem_set hj' with ⟨rfl, _, _⟩ | ⟨hn2, hj2⟩
      · exact hne rfl
      · exact hr' j' s' hj2 hn2 k hs hs'
    · rcases mem_set hj' with ⟨rfl, rfl, _⟩ | ⟨hn2, hj2⟩
      · exact hr' j s hj1 hn1 k hs' hs
      · exact h.apart j j' s s' hj1 hj2 hne k hs hs'
  · rcases mem_set hj with ⟨rfl, rfl, _⟩ | ⟨hne, hj⟩
    · rcases hf k hs with e | e
      · exact h.low j r hi k e
      · exact Nat.le_trans h.bz e
    · exact h.low j s hj k hs

/-- Two things have changed. -/
theorem Mem.upd2 (h : Mem B w0 L w) {i j : Nat} {r s : Res} (r' s' : Res) (hi : L[i]? = some r) (hj : L[j]? = some s) (hij : i ≠ j) (c : Ch fp w w') (hfp : ∀ k, k < w.heap.size → fp k → r.foot k ∨ s.foot k) (h1 : r'.holds w') (h2 : s'.holds w')
    (hf1 : ∀ k, r'.foot k → r.foot k ∨ w.heap.size ≤ k) (hf2 : ∀ k, s'.foot k → s.foot k) : Mem B w0 ((L.set i r').set j s') w' := by
  have hk : ∀ (m : Nat) (t : Res), L[m]? = some t → m ≠ i → m ≠ j → ∀ k, t.foot k → ¬ fp k := fun m t hm hn1 hn2 k ht hp => by
    rcases hfp k (t.lt (h.each m t hm) k ht) hp with e | e
    · exact h.apart i m r t hi hm (Ne.symm hn1) k e ht
    · exact h.apart j m s t hj hm (Ne.symm hn2) k e ht
  have get : ∀ (m : Nat) (t : Res), ((L.set i r').set j s')[m]? = some t → (m = j ∧ t = s') ∨ (m ≠ j ∧ m = i ∧ t = r') ∨ (m ≠ j ∧ m ≠ i ∧ L[m]? = some t) := fun m t hm => by
    rcases mem_set hm with ⟨rfl, rfl, _⟩ | ⟨hne, hm⟩
    · exact .inl ⟨rfl, rfl⟩
    · rcases mem_set hm with ⟨rfl, rfl, _⟩ | ⟨hn2, hm⟩
      · exact .inr (.inl ⟨hne, rfl, rfl⟩)
      · exact .inr (.inr ⟨hne, hn2, hm⟩)
  have old1 : ∀ (m : Nat) (t : Res), L[m]? = some t → m ≠ i → ∀ k, r'.foot k → ¬ t.foot k := fun m t hm hn k hr ht => by
    rcases hf1 k hr with e | e
    · exact h.apart i m r t hi hm (Ne.symm hn) k e ht
    · have := t.lt (h.each m t hm) k ht
      omega
  have old2 : ∀ (m : Nat) (t : Res), L[m]? = some t → m ≠ j → ∀ k, s'.foot k → ¬ t.foot k := fun m t hm hn k hr ht => h.apart j m s t hj hm (Ne.symm hn) k (hf2 k hr) ht
  have rs : ∀ k, r'.foot k → ¬ s'.foot k := fun k a b => old1 j s hj (Ne.symm hij) k a (hf2 k b)
  refine ⟨fun m t hm => ?_, fun m m' t t' hm hm' hne k ht ht' => ?_, fun m t hm k ht => ?_, h.bel.trans (c.belowB h.bz (fun k hk hp => (hfp k hk hp).elim (h.low i r hi k) (h.low j s hj k))), Nat.le_trans h.bz c.size⟩
  · rcases get m t hm with ⟨rfl, rfl⟩ | ⟨_, rfl, rfl⟩ | ⟨n1, n2, hm⟩
    · exact h2
    · exact h1
    · exact t.stable (h.each m t hm) c (hk m t hm n2 n1)
  · rcases get m t hm with ⟨rfl, rfl⟩ | ⟨_, rfl, rfl⟩ | ⟨n1, n2, hm1⟩
    · rcases get m' t' hm' with ⟨rfl, _⟩ | ⟨_, rfl, rfl⟩ | ⟨n3, n4, hm2⟩
      · exact hne rfl
      · exact rs k ht' ht
      · exact old2 m' t' hm2 n3 k ht ht'
    · rcases get m' t' hm' with ⟨rfl, rfl⟩ | ⟨_, rfl, _⟩ | ⟨n3, n4, hm2⟩
      · exact rs k ht ht'
      · exact hne rfl
      · exact old1 m' t' hm2 n4 k ht ht'
    · rcases get m' t' hm' with ⟨rfl, rfl⟩ | ⟨_, rfl, rfl⟩ | ⟨n3, n4, hm2⟩
      · exact old2 m t hm1 n1 k ht' ht
      · exact old1 m t hm1 n2 k ht' ht
      · exact h.apart m m' t t' hm1 hm2 hne k ht ht'
  · rcases get m t hm with ⟨rfl, rfl⟩ | ⟨_, rfl, rfl⟩ | ⟨n1, n2, hm⟩
    · exact h.low m s hj k (hf2 k ht)
    · rcases hf1 k ht with e | e
      · exact h.low m r hi k e
      · exact Nat.le_trans h.bz e
    · exact h.low m t hm k ht

theorem mem_app {L : List Res} {j : Nat} {r s : Res} (h : (L ++ [r])[j]? = some s) : (j = L.length ∧ s = r) ∨ L[j]? = some s := by
  rw [List.getElem?_append] at h
  split at h
  · exact .inr h
  · have hj : j - L.length = 0 := by
      have := (List.getElem?_eq_some_iff.1 h).1
      simp at this
      omega
    rw [hj] at h
    simp at h
    exact .inl ⟨by omega, h.symm⟩

/-- A new thing. -/
theorem Mem.add (h : Mem B w0 L w) (r : Res) (c : Ch (fun _ => False) w w') (h' : r.holds w') (hf : ∀ k, r.foot k → w.heap.size ≤ k) : Mem B w0 (L ++ [r]) w' := by
  have hk := h.keep c
  have no : ∀ (j : Nat) (s : Res), L[j]? = some s → ∀ k, s.foot k → ¬ r.foot k := fun j s hj k hs hr => by
    have := s.lt (h.each j s hj) k hs
    have := hf k hr
    omega
  refine ⟨fun j s hj => ?_, fun j j' s s' hj hj' hne k hs hs' => ?_, fun j s hj k hs => ?_, hk.bel, hk.bz⟩
  · rcases mem_app hj with ⟨_, rfl⟩ | hj
    · exact h'
    · exact hk.each j s hj
  · rcases mem_app hj with ⟨rfl, rfl⟩ | hj1
    · rcases mem_app hj' with ⟨rfl, _⟩ | hj2
      · exact hne rfl
      · exact no j' s' hj2 k hs' hs
    · rcases mem_app hj' with ⟨rfl, rfl⟩ | hj2
      · exact no j s hj1 k hs hs'
      · exact h.apart j j' s s' hj1 hj2 hne k hs hs'
  · rcases mem_app hj with ⟨_, rfl⟩ | hj
    · exact Nat.le_trans h.bz (hf k hs)
    · exact h.low j s hj k hs

/-- The things in front have changed, all together. -/
theorem Mem.front {L1 L1' L2 : List Res} (h : Mem B w0 (L1 ++ L2) w) (c : Ch fp w w') (hfp : ∀ k, k < w.heap.size → fp k → ∃ (i : Nat) (r : Res), L1[i]? = some r ∧ r.foot k)
    (h1 : ∀ (i : Nat) (r : Res), L1'[i]? = some r → r.holds w') (h2 : ∀ (i j : Nat) (r s : Res), L1'[i]? = some r → L1'[j]? = some s → i ≠ j → ∀ k, r.foot k → ¬ s.foot k)
    (hf : ∀ (i : Nat) (r : Res), L1'[i]? = some r → ∀ k, r.foot k → (∃ (j : Nat) (s : Res), L1[j]? = some s ∧ s.foot k) ∨ w.heap.size ≤ k) : Mem B w0 (L1' ++ L2) w' := by
  have inl : ∀ (i : Nat) (r : Res), L1[i]? = some r → (L1 ++ L2)[i]? = some r := fun i r hi => by
    rw [List.getElem?_append_left (List.getElem?_eq_some_iff.1 hi).1]; exact hi
  have inr : ∀ (i : Nat) (r : Res), L2[i]? = some r → (L1 ++ L2)[L1.length + i]? = some r := fun i r hi => by
    rw [List.getElem?_append_right (by omega), Nat.add_sub_cancel_left]; exact hi
  have get : ∀ (m : Nat) (t : Res), (L1' ++ L2)[m]? = some t → (L1'[m]? = some t ∧ m < L1'.length) ∨ (∃ j, m = L1'.length + j ∧ L2[j]? = some t) := fun m t hm => by
    rw [List.getElem?_append] at hm
    split at hm
    · rename_i hl; exact .inl ⟨hm, hl⟩
    · exact .inr ⟨m - L1'.length, by omega, hm⟩
  have ap : ∀ (i : Nat) (r : Res) (j : Nat) (s : Res), L1[i]? = some r → L2[j]? = some s → ∀ k, r.foot k → ¬ s.foot k := fun i r j s hi hj => h.apart i (L1.length + j) r s (inl i r hi) (inr j s hj) (by have := (List.getElem?_eq_some_iff.1 hi).1; omega)
  have keep2 : ∀ (j : Nat) (s : Res), L2[j]? = some s → ∀ k, s.foot k → ¬ fp k := fun j s hj k hs hp => by
    obtain ⟨i, r, hi, hr⟩ := hfp k (s.lt (h.each _ s (inr j s hj)) k hs) hp
    exact ap i r j s hi hj k hr hs
  have cross : ∀ (i : Nat) (r : Res) (j : Nat) (s : Res), L1'[i]? = some r → L2[j]? = some s → ∀ k, r.foot k → ¬ s.foot k := fun i r j s hi hj k hr hs => by
    rcases hf i r hi k hr with ⟨j', s', hj', hs'⟩ | e
    · exact ap j' s' j s hj' hj k hs' hs
    · have := s.lt (h.each _ s (inr j s hj)) k hs
      omega
  refine ⟨fun m t hm => ?_, fun m m' t t' hm hm' hne k ht ht' => ?_, fun m t hm k ht => ?_, h.bel.trans (c.belowB h.bz (fun k hk hp => ?_)), Nat.le_trans h.bz c.size⟩
  · rcases get m t hm with ⟨hm, _⟩ | ⟨j, rfl, hm1⟩
    · exact h1 m t hm
    · exact t.stable (h.each _ t (inr j t hm1)) c (keep2 j t hm1)
  · rcases get m t hm with ⟨hm1, hl⟩ | ⟨j, rfl, hm1⟩
    · rcases get m' t' hm' with ⟨hm2, _⟩ | ⟨j', rfl, hm2⟩
      · exact h2 m m' t t' hm1 hm2 hne k ht ht'
      · exact cross m t j' t' hm1 hm2 k ht ht'
    · rcases get m' t' hm' with ⟨hm2, _⟩ | ⟨j', rfl, hm2⟩
      · exact cross m' t' j t hm2 hm1 k ht' ht
      · exact h.apart _ _ t t' (inr j t hm1) (inr j' t' hm2) (by omega) k ht ht'
  · rcases get m t hm with ⟨hm1, hl⟩ | ⟨j, rfl, hm1⟩
    · rcases hf m t hm1 k ht with ⟨j', s', hj', hs'⟩ | e
      · exact h.low j' s' (inl j' s' hj') k hs'
      · exact Nat.le_trans h.bz e
    · exact h.low _ t (inr j t hm1) k ht
  · obtain ⟨i, r, hi, hr⟩ := hfp k hk hp
    exact h.low i r (inl i r hi) k hr

/-- A cell of a block is set. -/
theorem Mem.put (h : Mem B w0 L w) {i g : Nat} {t : TypeId} {cs : Array Value} (hi : L[i]? = some (blkR g t cs)) (o : Nat) (u : Value) : Mem B w0 (L.set i (blkR g t (cs.setIfInBounds o u))) (w.setCell ⟨g, o, none⟩ u) :=
  h.upd (blkR g t (cs.setIfInBounds o u)) hi ((Ch.refl (fun k => k = g) w).set (fun _ => rfl) u) (fun _ _ e => e) (Blk.put (h.each i _ hi) o u) (fun _ e => .inl e)

/-- An append onto a row. -/
theorem Mem.app (h : Mem B w0 L w) {i e size n n' : Nat} {v v' : Value} {xs xs' : List Value} (hi : L[i]? = some (rowR B e size n v xs)) (hr : w'.ownsRow B e size v' n' xs') (hg : w.grownBy w' v.ownBlock) (hf : Fresh w v v') :
    Mem B w0 (L.set i (rowR B e size n' v' xs')) w' := by
  refine h.upd (rowR B e size n' v' xs') hi ((Ch.refl (fun k => v.ownBlock = some k) w).grown hg (fun k hk _ => hk)) (fun _ _ e => e) hr (fun k hk => ?_)
  rcases hf with e | e
  · exact .inl (by show v.ownBlock = some k; rw [← e]; exact hk)
  · exact .inr (e k hk)

theorem Mem.nil (hB : B ≤ w.heap.size) (hb : Below B w0 w) : Mem B w0 [] w := ⟨fun i r h => by simp at h, fun i j r s h => by simp at h, fun i r h => by simp at h, hb, hB⟩
end
end Go.Proofs.Ytefpabicgefciaa
