/- What StoreKeeps gets, and its memory. -/
import Derived.Test.YtefpabicgefciaaKeepC
import Derived.Test.YtefpabicgefciaaFrameN
import Derived.Test.YtefpabicgefciaaSep
namespace Go.Proofs.Ytefpabicgefciaa
open Go.RowKit
set_option linter.unusedVariables false
set_option linter.unusedSimpArgs false
set_option linter.unusedSectionVars false

/-- A revision that came in. -/
structure InV where
  x : Rv
  am : Option Addr
  n1 : Nat
  c1 : Nat
  ms : List Mk
  ad : Option Addr
  n2 : Nat
  c2 : Nat
  ds : List Pc
def InV.cells (r : InV) : List Value := rvCells r.x (.slice r.am r.n1 r.c1) (.slice r.ad r.n2 r.c2)
def InV.ok (w : World) (r : InV) : Prop := InMk w r.am r.n1 r.ms ∧ InPc w r.ad r.n2 r.ds
/-- The revisions that came in. -/
def InRevs (w : World) (a : Option Addr) (n : Nat) (l : List InV) : Prop :=
  l.length = n ∧ (∀ r ∈ l, r.ok w) ∧ (0 < n → ∃ b off, a = some ⟨b, off, none⟩ ∧ b < w.heap.size ∧ ∀ (i j : Nat) (r : InV) v, l[i]? = some r → r.cells[j]? = some v → w.cell? ⟨b, off + (i * 8 + j), none⟩ = some v)
def mkKs : List K0 := [some (some .u32), some (some .i64), some (some .u8)]
def pcKs : List K0 := [some (some .u8), some (some .i64), none]
def rvKs : List K1 := [.inl (some (some .i64)), .inl (some (some .u64)), .inl (some (some .i64)), .inl (some (some .i64)), .inl (some (some .i64)), .inl (some (some .i64)), .inr mkKs, .inr pcKs]
theorem fits3 {ks : List K0} {vs : List Value} (k0 k1 k2 : K0) (hk : ks = [k0, k1, k2]) (h : FitsS ks vs) : ∃ a b c, vs = [a, b, c] ∧ fitsS k0 a ∧ fitsS k1 b ∧ fitsS k2 c := by
  subst hk
  obtain ⟨hl, hv⟩ := h
  obtain ⟨a, ha, fa⟩ := hv 0 _ rfl
  obtain ⟨b, hb, fb⟩ := hv 1 _ rfl
  obtain ⟨c, hc, fc⟩ := hv 2 _ rfl
  match vs, hl with
  | [x, y, z], _ =>
    simp at ha hb hc
    exact ⟨a, b, c, by rw [ha, hb, hc], fa, fb, fc⟩
theorem in_mk {w : World} {a : Option Addr} {n : Nat} {ls : List (List Value)} (h : InRowsS mkKs w a n ls) : ∃ xs, InMk w a n xs := by
  obtain ⟨hl, hf, hc⟩ := h
  obtain ⟨xs, hxl, hx⟩ := exists_list (R := fun i (x : Mk) => ls[i]? = some x.cells) n (fun i hi => by
    have h0 : ls[i]? = some (ls[i]'(by omega)) := List.getElem?_eq_getElem (by omega)
    obtain ⟨a, b, c, hv, ⟨u, rfl, _⟩, ⟨v, rfl, _⟩, ⟨t, rfl, _⟩⟩ := fits3 _ _ _ rfl (hf _ (List.getElem_mem (by omega : i < ls.length)))
    exact ⟨⟨u, v, t⟩, by rw [h0, hv]; rfl⟩)
  refine ⟨xs, hxl, fun h0 => ?_⟩
  obtain ⟨b, off, rfl, hb, hcell⟩ := hc h0
  exact ⟨b, off, rfl, hb, fun i j x v hi hj => hcell i j _ v (hx i x hi) hj⟩
theorem in_pc {w : World} {a : Option Addr} {n : Nat} {ls : List (List Value)} (h : InRowsS pcKs w a n ls) : ∃ xs, InPc w a n xs := by
  obtain ⟨hl, hf, hc⟩ := h
  obtain ⟨xs, hxl, hx⟩ := exists_list (R := fun i (x : Pc) => ls[i]? = some x.cells) n (fun i hi => by
    have h0 : ls[i]? = some (ls[i]'(by omega)) := List.getElem?_eq_getElem (by omega)
    obtain ⟨a, b, c, hv, ⟨u, rfl, _⟩, ⟨v, rfl, _⟩, ⟨t, rfl, _⟩⟩ := fits3 _ _ _ rfl (hf _ (List.getElem_mem (by omega : i < ls.length)))
    exact ⟨⟨u, v, t⟩, by rw [h0, hv]; rfl⟩)
  refine ⟨xs, hxl, fun h0 => ?_⟩
  obtain ⟨b, off, rfl, hb, hcell⟩ := hc h0
  exact ⟨b, off, rfl, hb, fun i j x v hi hj => hcell i j _ v (hx i x hi) hj⟩
theorem in_rv {w : World} {vs : List Value} (h : FitsN w rvKs vs) : ∃ r : InV, vs = r.cells ∧ r.ok w := by
  obtain ⟨hl, hv⟩ := h
  obtain ⟨v0, h0, u0, rfl, _⟩ := hv 0 _ rfl
  obtain ⟨v1, h1, u1, rfl, _⟩ := hv 1 _ rfl
  obtain ⟨v2, h2, u2, rfl, _⟩ := hv 2 _ rfl
  obtain ⟨v3, h3, u3, rfl, _⟩ := hv 3 _ rfl
  obtain ⟨v4, h4, u4, rfl, _⟩ := hv 4 _ rfl
  obtain ⟨v5, h5, u5, rfl, _⟩ := hv 5 _ rfl
  obtain ⟨v6, h6, a6, n6, c6, l6, rfl, _, _, _, f6⟩ := hv 6 _ rfl
  obtain ⟨v7, h7, a7, n7, c7, l7, rfl, _, _, _, f7⟩ := hv 7 _ rfl
  obtain ⟨ms, hm⟩ := in_mk f6
  obtain ⟨ds, hd⟩ := in_pc f7
  refine ⟨⟨⟨u0, u1, u2, u3, u4, u5⟩, a6, n6, c6, ms, a7, n7, c7, ds⟩, ?_, hm, hd⟩
  match vs, hl with
  | [x0, x1, x2, x3, x4, x5, x6, x7], _ =>
    simp at h0 h1 h2 h3 h4 h5 h6 h7
    rw [h0, h1, h2, h3, h4, h5, h6, h7]
    rfl
theorem in_revs {w : World} {a : Option Addr} {n : Nat} {ls : List (List Value)} (h : InRowsN rvKs w a n ls) : ∃ l, InRevs w a n l := by
  obtain ⟨hl, hf, hc⟩ := h
  obtain ⟨l, hll, hx⟩ := exists_list (R := fun i (r : InV) => ls[i]? = some r.cells ∧ r.ok w) n (fun i hi => by
    have h0 : ls[i]? = some (ls[i]'(by omega)) := List.getElem?_eq_getElem (by omega)
    obtain ⟨r, hr, ho⟩ := in_rv (hf _ (List.getElem_mem (by omega : i < ls.length)))
    exact ⟨r, by rw [h0, hr], ho⟩)
  refine ⟨l, hll, fun r hm => ?_, fun h0 => ?_⟩
  · obtain ⟨i, hi⟩ := List.getElem?_of_mem hm
    exact (hx i r hi).2
  · obtain ⟨b, off, rfl, hb, hcell⟩ := hc h0
    exact ⟨b, off, rfl, hb, fun i j r v hi hj => hcell i j _ v (hx i r hi).1 hj⟩

/-- A published revision: what was given, and where its copies stand. -/
structure Rec where
  rb : Nat
  x : Rv
  ms : List Mk
  ds : List Pc
  tm : Value
  tms : List Mk
  td : Value
  tds : List Pc
  wm : Value
  wd : Value
  mv : Value
  dv : Value
def mR (B : Nat) (v : Value) (l : List Mk) : Res := rowR B 45 3 l.length v (mkCells l)
def dR (B : Nat) (v : Value) (l : List Pc) : Res := rowR B 47 3 l.length v (pcCells l)
/-- The store, with its list of revisions. -/
def stR (sb : Nat) (v : Value) : Res where
  holds w := ∃ cs, Blk w sb 71 cs ∧ cs[23]? = some v
  foot k := k = sb
  stable h c hn := by obtain ⟨cs, hb, h23⟩ := h; exact ⟨cs, c.blk hb (hn sb rfl), h23⟩
  lt h k hk := by obtain ⟨cs, hb, _⟩ := h; rw [hk]; exact hb.lt
def Rec.res (B : Nat) (r : Rec) : List Res := [blkR r.rb 38 (rvA r.x r.tm r.td), mR B r.tm r.tms, dR B r.td r.tds, mR B r.wm r.ms, dR B r.wd r.ds, mR B r.mv r.ms, dR B r.dv r.ds]
def pubCells (z : List Value) (l : List Rec) : List Value := z ++ l.flatMap fun r => rvCells r.x r.mv r.dv
def wantCells (l : List Rec) : List Value := l.flatMap fun r => rvCells r.x r.wm r.wd
def keepL (B sb : Nat) (rv wv : Value) (z : List Value) (l : List Rec) : List Res :=
  stR sb rv :: rowR B 38 8 (l.length + 1) rv (pubCells z l) :: rowR B 38 8 l.length wv (wantCells l) :: l.flatMap (Rec.res B)
theorem InRevs.keep {w w' : World} {a : Option Addr} {n : Nat} {l : List InV} (h : InRevs w a n l) (c : Ch (fun _ => False) w w') : InRevs w' a n l :=
  ⟨h.1, fun r hr => ⟨(h.2.1 r hr).1.keep c (fun _ _ _ _ => id), (h.2.1 r hr).2.keep c (fun _ _ _ _ => id)⟩, fun h0 => by
    obtain ⟨b, off, rfl, hb, hc⟩ := h.2.2 h0
    exact ⟨b, off, rfl, Nat.lt_of_lt_of_le hb c.size, fun i j r v hi hj => (c.cell (p := ⟨b, _, none⟩) hb id).trans (hc i j r v hi hj)⟩⟩
theorem Mem.ch {B : Nat} {w0 w : World} {L : List Res} (h : Mem B w0 L w) (hB : B = w0.heap.size) : Ch (fun _ => False) w0 w := ⟨h.bel.os, h.bel.tape, h.bel.output, h.bel.size, fun k hk _ => h.bel.block k (by omega)⟩
theorem Mem.addK {B : Nat} {w0 w : World} {L : List Res} (h : Mem B w0 L w) (r : Res) (h' : r.holds w) (ha : ∀ (i : Nat) (s : Res), L[i]? = some s → ∀ k, s.foot k → ¬ r.foot k) (hl : ∀ k, r.foot k → B ≤ k) : Mem B w0 (L ++ [r]) w := by
  refine ⟨fun j s hj => ?_, fun j j' s s' hj hj' hne k hs hs' => ?_, fun j s hj k hs => ?_, h.bel, h.bz⟩
  · rcases mem_app hj with ⟨_, rfl⟩ | hj
    · exact h'
    · exact h.each j s hj
  · rcases mem_app hj with ⟨rfl, rfl⟩ | hj1
    · rcases mem_app hj' with ⟨rfl, _⟩ | hj2
      · exact hne rfl
      · exact ha j' s' hj2 k hs' hs
    · rcases mem_app hj' with ⟨rfl, rfl⟩ | hj2
      · exact ha j s hj1 k hs hs'
      · exact h.apart j j' s s' hj1 hj2 hne k hs hs'
  · rcases mem_app hj with ⟨_, rfl⟩ | hj
    · exact hl k hs
    · exact h.low j s hj k hs
/-- Three new things, apart. -/
theorem Mem.addThree {B : Nat} {w0 w w' : World} {L : List Res} (h : Mem B w0 L w) (c : Ch (fun _ => False) w w') (r1 r2 r3 : Res) (h1 : r1.holds w') (h2 : r2.holds w') (h3 : r3.holds w') (f1 : ∀ k, r1.foot k → w.heap.size ≤ k) (f2 : ∀ k, r2.foot k → w.heap.size ≤ k) (f3 : ∀ k, r3.foot k → w.heap.size ≤ k)
    (a12 : ∀ k, r1.foot k → ¬ r2.foot k) (a13 : ∀ k, r1.foot k → ¬ r3.foot k) (a23 : ∀ k, r2.foot k → ¬ r3.foot k) : Mem B w0 (L ++ [r1, r2, r3]) w' := by
  have old : ∀ (i : Nat) (s : Res), L[i]? = some s → ∀ k, s.foot k → k < w.heap.size := fun i s hi k hk => s.lt (h.each i s hi) k hk
  have t1 := h.add r1 c h1 f1
  have t2 := t1.addK r2 h2 (fun i s hi k hs hr => by
    rcases mem_app hi with ⟨_, rfl⟩ | hi
    · exact a12 k hs hr
    · have := old i s hi k hs; have := f2 k hr; omega) (fun k hk => Nat.le_trans h.bz (f2 k hk))
  have t3 := t2.addK r3 h3 (fun i s hi k hs hr => by
    rcases mem_app hi with ⟨_, rfl⟩ | hi
    · exact a23 k hs hr
    · rcases mem_app hi with ⟨_, rfl⟩ | hi
      · exact a13 k hs hr
      · have := old i s hi k hs; have := f3 k hr; omega) (fun k hk => Nat.le_trans h.bz (f3 k hk))
  simpa using t3
theorem Mem.addTwo {B : Nat} {w0 w w' : World} {L : List Res} (h : Mem B w0 L w) (c : Ch (fun _ => False) w w') (r1 r2 : Res) (h1 : r1.holds w') (h2 : r2.holds w') (f1 : ∀ k, r1.foot k → w.heap.size ≤ k) (f2 : ∀ k, r2.foot k → w.heap.size ≤ k)
    (a12 : ∀ k, r1.foot k → ¬ r2.foot k) : Mem B w0 (L ++ [r1, r2]) w' := by
  have t1 := h.add r1 c h1 f1
  have t2 := t1.addK r2 h2 (fun i s hi k hs hr => by
    rcases mem_app hi with ⟨_, rfl⟩ | hi
    · exact a12 k hs hr
    · have := s.lt (h.each i s hi) k hs; have := f2 k hr; omega) (fun k hk => Nat.le_trans h.bz (f2 k hk))
  simpa using t2
/-- Two things have changed, and two are new. -/
theorem Mem.pub {B : Nat} {w0 w w' : World} {L : List Res} {r s : Res} {fp : Nat → Prop} (h : Mem B w0 (r :: s :: L) w) (r' s' p q : Res) (c : Ch fp w w') (hfp : ∀ k, k < w.heap.size → fp k → s.foot k ∨ r.foot k) (h1 : r'.holds w') (h2 : s'.holds w')
    (hf1 : ∀ k, r'.foot k → r.foot k) (hf2 : ∀ k, s'.foot k → s.foot k ∨ w.heap.size ≤ k) (hp : p.holds w') (hq : q.holds w') (fp' : ∀ k, p.foot k → w.heap.size ≤ k) (fq : ∀ k, q.foot k → w.heap.size ≤ k) (apq : ∀ k, p.foot k → ¬ q.foot k)
    (asp : ∀ k, s'.foot k → ¬ p.foot k) (asq : ∀ k, s'.foot k → ¬ q.foot k) : Mem B w0 (r' :: s' :: (L ++ [p, q])) w' := by
  have t := h.upd2 (i := 1) (j := 0) s' r' rfl rfl (by decide) c hfp h2 h1 hf2 hf1
  have t0 : Mem B w0 (r' :: s' :: L) w' := t
  have old : ∀ (i : Nat) (u : Res), (r' :: s' :: L)[i]? = some u → ∀ k, u.foot k → k < w.heap.size ∨ s'.foot k := fun i u hi k hk => by
    match i, hi with
    | 0, hi => obtain rfl : r' = u := by simpa using hi
               exact .inl (r.lt (h.each 0 r rfl) k (hf1 k hk))
    | 1, hi => obtain rfl : s' = u := by simpa using hi
               exact .inr hk
    | i + 2, hi => exact .inl (u.lt (h.each (i + 2) u (by simpa using hi)) k hk)
  have t1 := t0.addK p hp (fun i u hi k hu hk => by
    rcases old i u hi k hu with e | e
    · have := fp' k hk; omega
    · exact asp k e hk) (fun k hk => Nat.le_trans h.bz (fp' k hk))
  have t2 := t1.addK q hq (fun i u hi k hu hk => by
    rcases mem_app hi with ⟨_, rfl⟩ | hi
    · exact apq k hu hk
    · rcases old i u hi k hu with e | e
      · have := fq k hk; omega
      · exact asq k e hk) (fun k hk => Nat.le_trans h.bz (fq k hk))
  simpa using t2
theorem rv_len (x : Rv) (a b : Value) : (rvCells x a b).length = 8 := rfl
theorem want_len (l : List Rec) : (wantCells l).length = l.length * 8 := by
  induction l with
  | nil => rfl
  | cons r l ih => simp only [wantCells, List.flatMap_cons, List.length_append, List.length_cons] at ih ⊢; rw [ih, rv_len]; omega
theorem flat_get (f : Rec → List Value) (hf : ∀ r, (f r).length = 8) : ∀ (l : List Rec) (i : Nat) (r : Rec), l[i]? = some r → ∀ (j : Nat) (v : Value), (f r)[j]? = some v → (l.flatMap f)[i * 8 + j]? = some v
  | [], i, r, h, _, _, _ => by simp at h
  | x :: l, 0, r, h, j, v, hv => by
    injection h with h
    subst h
    have hlt : j < (f x).length := (List.getElem?_eq_some_iff.1 hv).1
    rw [List.flatMap_cons, Nat.zero_mul, Nat.zero_add, List.getElem?_append_left hlt]
    exact hv
  | x :: l, i + 1, r, h, j, v, hv => by
    have t := flat_get f hf l i r (by simpa using h) j v hv
    have hl := hf x
    rw [List.flatMap_cons, List.getElem?_append_right (by omega), show (i + 1) * 8 + j - (f x).length = i * 8 + j by omega]
    exact t
theorem want_get {l : List Rec} {i : Nat} {r : Rec} (h : l[i]? = some r) (j : Nat) (v : Value) (hv : (rvCells r.x r.wm r.wd)[j]? = some v) : (wantCells l)[i * 8 + j]? = some v := flat_get _ (fun _ => rfl) l i r h j v hv
theorem pub_get {z : List Value} (hz : z.length = 8) {l : List Rec} {i : Nat} {r : Rec} (h : l[i]? = some r) (j : Nat) (v : Value) (hv : (rvCells r.x r.mv r.dv)[j]? = some v) : (pubCells z l)[(i + 1) * 8 + j]? = some v := by
  have t := flat_get (fun r => rvCells r.x r.mv r.dv) (fun _ => rfl) l i r h j v hv
  unfold pubCells
  rw [List.getElem?_append_right (by omega), hz, show (i + 1) * 8 + j - 8 = i * 8 + j by omega]
  exact t
theorem pub_snoc (z : List Value) (l : List Rec) (r : Rec) : pubCells z (l ++ [r]) = pubCells z l ++ rvCells r.x r.mv r.dv := by simp [pubCells]
theorem want_snoc (l : List Rec) (r : Rec) : wantCells (l ++ [r]) = wantCells l ++ rvCells r.x r.wm r.wd := by simp [wantCells]
theorem Mem.updA {B : Nat} {w0 w w' : World} {L1 L2 : List Res} {r : Res} {fp : Nat → Prop} (h : Mem B w0 (L1 ++ r :: L2) w) (r' : Res) (c : Ch fp w w') (hfp : ∀ k, k < w.heap.size → fp k → r.foot k) (h' : r'.holds w') (hf : ∀ k, r'.foot k → r.foot k) : Mem B w0 (L1 ++ r' :: L2) w' := by
  have t := h.upd (i := L1.length) r' (by simp) c hfp h' (fun k hk => .inl (hf k hk))
  rwa [List.set_append_right _ _ (Nat.le_refl _), Nat.sub_self, List.set_cons_zero] at t
theorem keep_tm (B sb : Nat) (rv wv : Value) (z : List Value) (rs : List Rec) (rb : Nat) (x : Rv) (ms : List Mk) (ds : List Pc) (tm : Value) (tms : List Mk) (td : Value) (tds : List Pc) (wm wd mv dv : Value) :
    keepL B sb rv wv z (rs ++ [⟨rb, x, ms, ds, tm, tms, td, tds, wm, wd, mv, dv⟩]) = (stR sb rv :: rowR B 38 8 (rs.length + 1 + 1) rv (pubCells z rs ++ rvCells x mv dv) :: rowR B 38 8 (rs.length + 1) wv (wantCells rs ++ rvCells x wm wd) :: (rs.flatMap (Rec.res B) ++ [blkR rb 38 (rvA x tm td)])) ++ mR B tm tms :: [dR B td tds, mR B wm ms, dR B wd ds, mR B mv ms, dR B dv ds] := by
  simp [keepL, pub_snoc, want_snoc, Rec.res]
theorem keep_td (B sb : Nat) (rv wv : Value) (z : List Value) (rs : List Rec) (rb : Nat) (x : Rv) (ms : List Mk) (ds : List Pc) (tm : Value) (tms : List Mk) (td : Value) (tds : List Pc) (wm wd mv dv : Value) :
    keepL B sb rv wv z (rs ++ [⟨rb, x, ms, ds, tm, tms, td, tds, wm, wd, mv, dv⟩]) = (stR sb rv :: rowR B 38 8 (rs.length + 1 + 1) rv (pubCells z rs ++ rvCells x mv dv) :: rowR B 38 8 (rs.length + 1) wv (wantCells rs ++ rvCells x wm wd) :: (rs.flatMap (Rec.res B) ++ [blkR rb 38 (rvA x tm td), mR B tm tms])) ++ dR B td tds :: [mR B wm ms, dR B wd ds, mR B mv ms, dR B dv ds] := by
  simp [keepL, pub_snoc, want_snoc, Rec.res]
theorem Mem.setTm {B sb : Nat} {rv wv : Value} {z : List Value} {rs : List Rec} {rb : Nat} {x : Rv} {ms : List Mk} {ds : List Pc} {tm : Value} {tms : List Mk} {td : Value} {tds : List Pc} {wm wd mv dv : Value} {w0 w w' : World}
    (h : Mem B w0 (keepL B sb rv wv z (rs ++ [⟨rb, x, ms, ds, tm, tms, td, tds, wm, wd, mv, dv⟩])) w) (tms' : List Mk) (c : Ch (fun k => tm.ownBlock = some k) w w') (h' : (mR B tm tms').holds w') : Mem B w0 (keepL B sb rv wv z (rs ++ [⟨rb, x, ms, ds, tm, tms', td, tds, wm, wd, mv, dv⟩])) w' := by
  rw [keep_tm] at h ⊢
  exact h.updA (mR B tm tms') c (fun _ _ e => e) h' (fun _ e => e)
theorem Mem.setTd {B sb : Nat} {rv wv : Value} {z : List Value} {rs : List Rec} {rb : Nat} {x : Rv} {ms : List Mk} {ds : List Pc} {tm : Value} {tms : List Mk} {td : Value} {tds : List Pc} {wm wd mv dv : Value} {w0 w w' : World}
    (h : Mem B w0 (keepL B sb rv wv z (rs ++ [⟨rb, x, ms, ds, tm, tms, td, tds, wm, wd, mv, dv⟩])) w) (tds' : List Pc) (c : Ch (fun k => td.ownBlock = some k) w w') (h' : (dR B td tds').holds w') : Mem B w0 (keepL B sb rv wv z (rs ++ [⟨rb, x, ms, ds, tm, tms, td, tds', wm, wd, mv, dv⟩])) w' := by
  rw [keep_td] at h ⊢
  exact h.updA (dR B td tds') c (fun _ _ e => e) h' (fun _ e => e)
theorem flat_set {α : Type} (f : α → List Value) (hf : ∀ x, (f x).length = 3) : ∀ (l : List α) (i : Nat) (x y : α) (v : Value), l[i]? = some x → f y = (f x).set 1 v → (l.flatMap f).set (i * 3 + 1) v = (l.set i y).flatMap f
  | [], i, x, y, v, h, _ => by simp at h
  | a :: l, 0, x, y, v, h, hy => by
    injection h with h
    subst h
    rw [List.set_cons_zero, List.flatMap_cons, List.flatMap_cons, hy, Nat.zero_mul, Nat.zero_add, List.set_append_left _ _ (by rw [hf]; omega)]
  | a :: l, i + 1, x, y, v, h, hy => by
    have t := flat_set f hf l i x y v (by simpa using h) hy
    have hl := hf a
    rw [List.set_cons_succ, List.flatMap_cons, List.flatMap_cons, List.set_append_right _ _ (by omega), show (i + 1) * 3 + 1 - (f a).length = i * 3 + 1 by omega, t]
theorem mk_set (l : List Mk) (i : Nat) (x : Mk) (v : Int) (h : l[i]? = some x) : (mkCells l).set (i * 3 + 1) (.int .i64 v) = mkCells (l.set i ⟨x.id, v, x.g⟩) := flat_set Mk.cells (fun _ => rfl) l i x _ _ h rfl
theorem pc_set (l : List Pc) (i : Nat) (x : Pc) (v : Int) (h : l[i]? = some x) : (pcCells l).set (i * 3 + 1) (.int .i64 v) = pcCells (l.set i ⟨x.k, v, x.s⟩) := flat_set Pc.cells (fun _ => rfl) l i x _ _ h rfl
end Go.Proofs.Ytefpabicgefciaa
