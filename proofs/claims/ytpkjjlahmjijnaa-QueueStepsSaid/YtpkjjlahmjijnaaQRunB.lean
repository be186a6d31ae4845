/- The queue: the events of a run: what came in, and a push begun. -/
import Derived.Test.YtpkjjlahmjijnaaQRun
namespace Go.Proofs.Ytpkjjlahmjijnaa
open Go.RowKit
set_option linter.unusedVariables false
set_option linter.unusedSimpArgs false
set_option linter.unusedSectionVars false

/-- An event. -/
structure EvQ where
  d : Int
  t : Int
  v : Int
  w : Int
def EvQ.cells (x : EvQ) : List Value := [.int .u8 x.d, .int .i64 x.t, .int .u64 x.v, .int .i64 x.w]
def evKs : List (Option IntKind) := [some .u8, some .i64, some .u64, some .i64]
def EvQ.ok (x : EvQ) : Prop := (0 ≤ x.d ∧ x.d < 256) ∧ (-9223372036854775808 ≤ x.t ∧ x.t < 9223372036854775808) ∧ (0 ≤ x.v ∧ x.v < 18446744073709551616) ∧ (-9223372036854775808 ≤ x.w ∧ x.w < 9223372036854775808)
theorem ev_of_fits {vs : List Value} (h : Fits evKs vs) : ∃ x : EvQ, vs = x.cells ∧ x.ok := by
  obtain ⟨hl, hf⟩ := h
  obtain ⟨v0, e0, n0, rfl, w0⟩ := hf 0 _ rfl
  obtain ⟨v1, e1, n1, rfl, w1⟩ := hf 1 _ rfl
  obtain ⟨v2, e2, n2, rfl, w2⟩ := hf 2 _ rfl
  obtain ⟨v3, e3, n3, rfl, w3⟩ := hf 3 _ rfl
  refine ⟨⟨n0, n1, n2, n3⟩, ?_, wf_u8 w0, wf_i64 w1, wf_u64 w2, wf_i64 w3⟩
  match vs, hl with
  | [a, b, c, d], _ => simp at e0 e1 e2 e3; simp [EvQ.cells, e0, e1, e2, e3]
/-- The events that came in. -/
def InEvs (w : World) (a : Option Addr) (n : Nat) (xs : List EvQ) : Prop :=
  xs.length = n ∧ (∀ x ∈ xs, x.ok) ∧ (0 < n → ∃ b off, a = some ⟨b, off, none⟩ ∧ b < w.heap.size ∧ ∀ (i j : Nat) x v, xs[i]? = some x → x.cells[j]? = some v → w.cell? ⟨b, off + (i * 4 + j), none⟩ = some v)
theorem in_evs {w : World} {a : Option Addr} {n : Nat} {ls : List (List Value)} (h : InRows evKs w a n ls) : ∃ xs, InEvs w a n xs := by
  obtain ⟨hl, hf, hc⟩ := h
  obtain ⟨xs, hxl, hx⟩ := exists_list (R := fun i (x : EvQ) => ls[i]? = some x.cells ∧ x.ok) n (fun i hi => by
    have h0 : ls[i]? = some (ls[i]'(by omega)) := List.getElem?_eq_getElem (by omega)
    obtain ⟨x, hx, ho⟩ := ev_of_fits (hf _ (List.getElem_mem (by omega : i < ls.length)))
    exact ⟨x, by rw [h0, hx], ho⟩)
  refine ⟨xs, hxl, fun x hm => ?_, fun h0 => ?_⟩
  · obtain ⟨i, hi⟩ := List.getElem?_of_mem hm
    exact (hx i x hi).2
  · obtain ⟨b, off, rfl, hb, hcell⟩ := hc h0
    exact ⟨b, off, rfl, hb, fun i j x v hi hj => hcell i j _ v (hx i x hi).1 hj⟩

section
variable {B p cb qb X n M m : Nat} {lv vp vv vs vo vr vl : Value} {bl : List Nat} {vals st ot rs pl : List Int} {s : BS} {x : Xq} {gp : List (Nat × Pu)} {gq : Option (Nat × Pl)} {w0 w w1 w' : World}

/-- A push has come. -/
theorem Mem.newPush (h : Mem B w0 (runL B p cb qb X n lv vp vv vs vo vr vl m bl vals s st ot rs pl gq gp) w) (g : Nat) (q : Pu) (c : Ch (fun _ => False) w w') (hq : Blk w' g 105 (puCells qb q)) (hg : w.heap.size ≤ g) :
    Mem B w0 (runL B p cb qb X n lv vp vv vs vo vr vl m bl vals s st ot rs pl gq (gp ++ [(g, q)])) w' := by
  have t := h.add (pushR qb (g, q)) c hq (fun k hk => by rw [show k = g from hk]; exact hg)
  have e : runL B p cb qb X n lv vp vv vs vo vr vl m bl vals s st ot rs pl gq gp ++ [pushR qb (g, q)] = runL B p cb qb X n lv vp vv vs vo vr vl m bl vals s st ot rs pl gq (gp ++ [(g, q)]) := by simp [runL]
  rw [← e]; exact t

/-- The four appends. -/
def chainsQ (vp vv vs vo : Value) (m : Nat) (bl : List Nat) (vals st ot : List Int) (g : Nat) (v : Int) (b0 p0 d0 q0 b1 p1 d1 q1 b2 p2 d2 q2 b3 p3 d3 q3 : Nat) : List Mix.AppC :=
  [⟨b0, p0, d0, q0, 52, vp, m, ptrV bl, .pointer (some ⟨g, 0, none⟩)⟩, ⟨b1, p1, d1, q1, 22, vv, m, u64V vals, .int .u64 v⟩,
   ⟨b2, p2, d2, q2, 3, vs, m, intV st, .int .i64 0⟩, ⟨b3, p3, d3, q3, 3, vo, m, intV ot, .int .i64 0⟩]

theorem chains_at {g : Nat} {v : Int} {b0 p0 d0 q0 b1 p1 d1 q1 b2 p2 d2 q2 b3 p3 d3 q3 : Nat} {k : Nat} {c : Mix.AppC} (h : (chainsQ vp vv vs vo m bl vals st ot g v b0 p0 d0 q0 b1 p1 d1 q1 b2 p2 d2 q2 b3 p3 d3 q3)[k]? = some c) : k < 4 ∧ ∃ r : Res, (runL B p cb qb X n lv vp vv vs vo vr vl m bl vals s st ot rs pl gq gp)[k]? = some r ∧ r = rowR B c.e 1 c.n c.v c.xs := by
  have hk : k < 4 := (List.getElem?_eq_some_iff.1 h).1
  refine ⟨hk, ?_⟩
  match k, hk with
  | 0, _ => obtain rfl := Option.some.inj h; exact ⟨_, rfl, rfl⟩
  | 1, _ => obtain rfl := Option.some.inj h; exact ⟨_, rfl, rfl⟩
  | 2, _ => obtain rfl := Option.some.inj h; exact ⟨_, rfl, rfl⟩
  | 3, _ => obtain rfl := Option.some.inj h; exact ⟨_, rfl, rfl⟩

theorem Mem.toJ (h : Mem B w0 (runL B p cb qb X n lv vp vv vs vo vr vl m bl vals s st ot rs pl gq gp) w) (g : Nat) (v : Int) (b0 p0 d0 q0 b1 p1 d1 q1 b2 p2 d2 q2 b3 p3 d3 q3 : Nat) :
    ∀ UB UA, Mix.AppJ B (chainsQ vp vv vs vo m bl vals st ot g v b0 p0 d0 q0 b1 p1 d1 q1 b2 p2 d2 q2 b3 p3 d3 q3) w w UB UA (fun _ => 0) := by
  intro UB UA
  refine ⟨fun k c hc => ?_, fun k j c e hc he hne b hb hb' => ?_, Ch.refl _ _, fun k c hc b _ hb => ?_, h.bz⟩
  · obtain ⟨_, r, hr, rfl⟩ := chains_at (B := B) (p := p) (cb := cb) (qb := qb) (X := X) (n := n) (lv := lv) (vr := vr) (vl := vl) (s := s) (rs := rs) (pl := pl) (gq := gq) (gp := gp) hc
    exact ⟨fun _ => h.each k _ hr, fun e => absurd e (by decide), fun e => absurd e (by decide)⟩
  · obtain ⟨_, r, hr, rfl⟩ := chains_at (B := B) (p := p) (cb := cb) (qb := qb) (X := X) (n := n) (lv := lv) (vr := vr) (vl := vl) (s := s) (rs := rs) (pl := pl) (gq := gq) (gp := gp) hc
    obtain ⟨_, r', hr', rfl⟩ := chains_at (B := B) (p := p) (cb := cb) (qb := qb) (X := X) (n := n) (lv := lv) (vr := vr) (vl := vl) (s := s) (rs := rs) (pl := pl) (gq := gq) (gp := gp) he
    rcases hb with ⟨_, hb⟩ | ⟨e1, _⟩ | ⟨e1, _⟩
    · rcases hb' with ⟨_, hb'⟩ | ⟨e1, _⟩ | ⟨e1, _⟩
      · exact h.apart k j _ _ hr hr' hne b hb hb'
      · exact absurd e1 (by decide)
      · exact absurd e1 (by decide)
    · exact absurd e1 (by decide)
    · exact absurd e1 (by decide)
  · rcases hb with ⟨_, hb⟩ | ⟨e1, _⟩ | ⟨e1, _⟩
    · exact hb
    · exact absurd e1 (by decide)
    · exact absurd e1 (by decide)

/-- The rows behind the appends, before the slices are stored. -/
theorem Mem.rows4 (h : Mem B w0 (runL B p cb qb X n lv vp vv vs vo vr vl m bl vals s st ot rs pl gq gp) w) {g : Nat} {v : Int} {b0 p0 d0 q0 b1 p1 d1 q1 b2 p2 d2 q2 b3 p3 d3 q3 : Nat} {UB UA : Nat → Value}
    (J : Mix.AppJ B (chainsQ vp vv vs vo m bl vals st ot g v b0 p0 d0 q0 b1 p1 d1 q1 b2 p2 d2 q2 b3 p3 d3 q3) w w1 UB UA (fun _ => 2)) :
    Mem B w0 (rowR B 52 1 (m + 1) (UA 0) (ptrV (bl ++ [g])) :: rowR B 22 1 (m + 1) (UA 1) (u64V (vals ++ [v])) :: rowR B 3 1 (m + 1) (UA 2) (intV (st ++ [0])) :: rowR B 3 1 (m + 1) (UA 3) (intV (ot ++ [0])) :: (runL B p cb qb X n lv vp vv vs vo vr vl m bl vals s st ot rs pl gq gp).drop 4) w1 := by
  have get : ∀ (k : Nat) (r : Res), [rowR B 52 1 (m + 1) (UA 0) (ptrV (bl ++ [g])), rowR B 22 1 (m + 1) (UA 1) (u64V (vals ++ [v])), rowR B 3 1 (m + 1) (UA 2) (intV (st ++ [0])), rowR B 3 1 (m + 1) (UA 3) (intV (ot ++ [0]))][k]? = some r →
      ∃ c, (chainsQ vp vv vs vo m bl vals st ot g v b0 p0 d0 q0 b1 p1 d1 q1 b2 p2 d2 q2 b3 p3 d3 q3)[k]? = some c ∧ r = rowR B c.e 1 (c.n + 1) (UA k) (c.xs ++ [c.y]) := by
    intro k r hk
    have hk4 : k < 4 := (List.getElem?_eq_some_iff.1 hk).1
    match k, hk4 with
    | 0, _ => obtain rfl := Option.some.inj hk; exact ⟨_, rfl, by simp [ptrV]⟩
    | 1, _ => obtain rfl := Option.some.inj hk; exact ⟨_, rfl, by simp [u64V]⟩
    | 2, _ => obtain rfl := Option.some.inj hk; exact ⟨_, rfl, by simp [intV]⟩
    | 3, _ => obtain rfl := Option.some.inj hk; exact ⟨_, rfl, by simp [intV]⟩
  have old : ∀ (k : Nat) (c : Mix.AppC), (chainsQ vp vv vs vo m bl vals st ot g v b0 p0 d0 q0 b1 p1 d1 q1 b2 p2 d2 q2 b3 p3 d3 q3)[k]? = some c → ((runL B p cb qb X n lv vp vv vs vo vr vl m bl vals s st ot rs pl gq gp).take 4)[k]? = some (rowR B c.e 1 c.n c.v c.xs) := by
    intro k c hc
    obtain ⟨hk, r, hr, rfl⟩ := chains_at (B := B) (p := p) (cb := cb) (qb := qb) (X := X) (n := n) (lv := lv) (vr := vr) (vl := vl) (s := s) (rs := rs) (pl := pl) (gq := gq) (gp := gp) hc
    rw [List.getElem?_take, if_pos hk]; exact hr
  have hsplit : runL B p cb qb X n lv vp vv vs vo vr vl m bl vals s st ot rs pl gq gp = (runL B p cb qb X n lv vp vv vs vo vr vl m bl vals s st ot rs pl gq gp).take 4 ++ (runL B p cb qb X n lv vp vv vs vo vr vl m bl vals s st ot rs pl gq gp).drop 4 := (List.take_append_drop 4 _).symm
  rw [hsplit] at h
  refine Mem.front (L1' := [rowR B 52 1 (m + 1) (UA 0) (ptrV (bl ++ [g])), rowR B 22 1 (m + 1) (UA 1) (u64V (vals ++ [v])), rowR B 3 1 (m + 1) (UA 2) (intV (st ++ [0])), rowR B 3 1 (m + 1) (UA 3) (intV (ot ++ [0]))]) h J.ch ?_ ?_ ?_ ?_
  · rintro k _ ⟨j, c, hc, hk⟩
    exact ⟨j, _, old j c hc, hk⟩
  · intro k r hk
    obtain ⟨c, hc, rfl⟩ := get k r hk
    exact (J.each k c hc).2.2 rfl
  · intro k j r r' hk hj hne b hb hb'
    obtain ⟨c, hc, rfl⟩ := get k r hk
    obtain ⟨c', hc', rfl⟩ := get j r' hj
    exact J.apart k j c c' hc hc' hne b (.inr (.inr ⟨rfl, hb⟩)) (.inr (.inr ⟨rfl, hb'⟩))
  · intro k r hk b hb
    obtain ⟨c, hc, rfl⟩ := get k r hk
    by_cases hlt : b < w.heap.size
    · exact .inl ⟨k, _, old k c hc, J.old k c hc b hlt (.inr (.inr ⟨rfl, hb⟩))⟩
    · exact .inr (by omega)

/-- The four slices are stored. -/
theorem Mem.stored4 (h : Mem B w0 (runL B p cb qb X n lv vp vv vs vo vr vl m bl vals s st ot rs pl gq gp) w) {g : Nat} {v : Int} {b0 p0 d0 q0 b1 p1 d1 q1 b2 p2 d2 q2 b3 p3 d3 q3 : Nat} {UB UA : Nat → Value}
    (J : Mix.AppJ B (chainsQ vp vv vs vo m bl vals st ot g v b0 p0 d0 q0 b1 p1 d1 q1 b2 p2 d2 q2 b3 p3 d3 q3) w w1 UB UA (fun _ => 2)) (j0 j1 j2 j3 : Nat) :
    Mem B w0 (runL B p cb qb X n lv (UA 0) (UA 1) (UA 2) (UA 3) vr vl (m + 1) (bl ++ [g]) (vals ++ [v]) s (st ++ [0]) (ot ++ [0]) rs pl gq gp)
      ((((((((w1.drewN j0).setCell ⟨X, 2, none⟩ (UA 0)).drewN j1).setCell ⟨X, 3, none⟩ (UA 1)).drewN j2).setCell ⟨X, 4, none⟩ (UA 2)).drewN j3).setCell ⟨X, 5, none⟩ (UA 3)) :=
  ((((((((h.rows4 J).drewN j0).put (i := 5) rfl 2 (UA 0)).drewN j1).put (i := 5) rfl 3 (UA 1)).drewN j2).put (i := 5) rfl 4 (UA 2)).drewN j3).put (i := 5) rfl 5 (UA 3)
end
end Go.Proofs.Ytpkjjlahmjijnaa
