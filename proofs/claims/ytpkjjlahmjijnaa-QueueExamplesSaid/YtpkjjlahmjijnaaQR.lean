/- The queue: the memory of a run. -/
import Derived.Test.YtpkjjlahmjijnaaQN
import Derived.Test.YtpkjjlahmjijnaaQSv
import Derived.Test.YtpkjjlahmjijnaaQSl
import Derived.Test.YtpkjjlahmjijnaaQLawC
import Derived.Test.YtpkjjlahmjijnaaSep
import Derived.Test.YtpkjjlahmjijnaaPar
namespace Go.Proofs.Ytpkjjlahmjijnaa
open Go.RowKit
set_option linter.unusedVariables false
set_option linter.unusedSimpArgs false
set_option linter.unusedSectionVars false

def u64V (l : List Int) : List Value := l.map (Value.int .u64)
def intV (l : List Int) : List Value := l.map (Value.int .i64)
def ptrV (l : List Nat) : List Value := l.map fun g => .pointer (some ⟨g, 0, none⟩)

def queueR (B p cb qb : Nat) (lv : Value) (s : BS) (f : Qd) (pu : Value) : Res where
  holds w := QueueM B w p cb qb lv s f pu
  foot k := FP p cb lv k ∨ k = qb
  stable h c hn := h.ch c (fun e => hn _ (.inl (.inl rfl)) e) (fun e => hn _ (.inl (.inr (.inl rfl))) e) (fun k hk e => hn k (.inl (.inr (.inr hk))) e) (fun e => hn _ (.inr rfl) e)
  lt h k hk := by
    rcases hk with (rfl | rfl | hk) | rfl
    · exact h.b.hp.lt
    · exact h.b.hc.lt
    · exact (h.b.hl.lt k hk).2
    · exact h.fd.lt
def pullR (qb : Nat) : Option (Nat × Pl) → Res
  | none => pureR True
  | some (g, q) => blkR g 109 (plCells qb q)
def pullV : Option (Nat × Pl) → Value
  | none => .pointer none
  | some (g, _) => .pointer (some ⟨g, 0, none⟩)
def pushR (qb : Nat) (x : Nat × Pu) : Res := blkR x.1 105 (puCells qb x.2)

/-- The cells of a run. -/
def runCells (p qb : Nat) (vp vv vs vo vr vl : Value) : Array Value := #[.pointer (some ⟨p, 0, none⟩), .pointer (some ⟨qb, 0, none⟩), vp, vv, vs, vo, vr, vl, .bool true]
/-- The things of a run. -/
def runL (B p cb qb X n : Nat) (lv vp vv vs vo vr vl : Value) (m : Nat) (bl : List Nat) (vals : List Int) (s : BS) (st ot rs pl : List Int) (gq : Option (Nat × Pl)) (gp : List (Nat × Pu)) : List Res :=
  rowR B 52 1 m vp (ptrV bl) :: rowR B 22 1 m vv (u64V vals) :: rowR B 3 1 m vs (intV st) :: rowR B 3 1 m vo (intV ot) :: queueR B p cb qb lv s (lawQ n) (pullV gq) :: blkR X 51 (runCells p qb vp vv vs vo vr vl) ::
    rowR B 22 1 rs.length vr (u64V rs) :: rowR B 22 1 pl.length vl (u64V pl) :: pullR qb gq :: gp.map (pushR qb)

/-- The memory of a run, and what is known of it. -/
structure RunQ (B p cb qb X n M : Nat) (lv vp vv vs vo vr vl : Value) (x : Xq) (gp : List (Nat × Pu)) (gq : Option (Nat × Pl)) (w0 w : World) : Prop where
  mem : Mem B w0 (runL B p cb qb X n lv vp vv vs vo vr vl gp.length (gp.map Prod.fst) (gp.map fun y => y.2.v) x.s x.st x.ot x.rs x.pl gq gp) w
  ps : x.ps = gp.map Prod.snd
  inv : QInv n x
  lg : x.s.lg.length ≤ M
  pm : gp.length ≤ M
  rm : x.rs.length ≤ x.s.lg.length
  sm : ∀ k, lk x.st k ≤ x.s.lg.length
  om : ∀ k, lk x.ot k ≤ x.s.lg.length
  hM : M ≤ 500000
  pull : x.pull = (gq.map Prod.snd).bind fun q => if q.fin = true then none else some q

section
variable {B p cb qb X n M m : Nat} {lv vp vv vs vo vr vl : Value} {bl : List Nat} {vals st ot rs pl : List Int} {s : BS} {x : Xq} {gp : List (Nat × Pu)} {gq : Option (Nat × Pl)} {w0 w w' : World}
theorem push_at {k : Nat} {g : Nat} {q : Pu} (hk : gp[k]? = some (g, q)) : (runL B p cb qb X n lv vp vv vs vo vr vl m bl vals s st ot rs pl gq gp)[9 + k]? = some (pushR qb (g, q)) := by
  rw [Nat.add_comm]
  simp [runL, hk]
theorem push_set (k : Nat) (y : Nat × Pu) : (runL B p cb qb X n lv vp vv vs vo vr vl m bl vals s st ot rs pl gq gp).set (9 + k) (pushR qb y) = runL B p cb qb X n lv vp vv vs vo vr vl m bl vals s st ot rs pl gq (gp.set k y) := by
  rw [Nat.add_comm]
  simp [runL, List.map_set]
theorem RunQ.keep (h : RunQ B p cb qb X n M lv vp vv vs vo vr vl x gp gq w0 w) (c : Ch (fun _ => False) w w') : RunQ B p cb qb X n M lv vp vv vs vo vr vl x gp gq w0 w' := { h with mem := h.mem.keep c }
theorem RunQ.drewN (h : RunQ B p cb qb X n M lv vp vv vs vo vr vl x gp gq w0 w) (m : Nat) : RunQ B p cb qb X n M lv vp vv vs vo vr vl x gp gq w0 (w.drewN m) := h.keep ((Ch.refl _ w).drewN m)
theorem RunQ.ps_at (h : RunQ B p cb qb X n M lv vp vv vs vo vr vl x gp gq w0 w) {k : Nat} {g : Nat} {q : Pu} (hk : gp[k]? = some (g, q)) : x.ps[k]? = some q := by rw [h.ps]; simp [hk]
theorem RunQ.lens (h : RunQ B p cb qb X n M lv vp vv vs vo vr vl x gp gq w0 w) : x.st.length = gp.length ∧ x.ot.length = gp.length := by
  have h1 := h.inv.ls
  have h2 := h.inv.lo
  rw [h.ps] at h1 h2
  simpa using And.intro h1 h2

/-- An element of a row. -/
theorem own_at {e : Nat} {v : Value} {xs : List Value} {k : Nat} {u : Value} (h : w.ownsRow B e 1 v m xs) (hu : xs[k]? = some u) : ∃ g cap, v = .slice (some ⟨g, 0, none⟩) m cap ∧ k < m ∧ m ≤ cap ∧ w.cell? ⟨g, k, none⟩ = some u ∧ w.frozen? ⟨g, k, none⟩ = false := by
  have hk : k < m := by
    have := (List.getElem?_eq_some_iff.1 hu).1
    have := h.1
    omega
  obtain ⟨g, cap, hv, h1, h2, h3, h4⟩ := own_form h (by omega)
  have hc := h.cells (g := g) (by rw [hv]; rfl) k u hu
  rw [addr_add0] at hc
  refine ⟨g, cap, hv, hk, h1, hc, ?_⟩
  rcases h.2 with ⟨_, h0⟩ | ⟨g', cap', cur, hv', _, hh, _⟩
  · omega
  · rw [hv] at hv'
    injection hv' with e1
    injection e1 with e1
    injection e1 with e1
    subst e1
    exact Blk.free (t := e) (cs := cur) hh k
theorem u64V_at {l : List Int} {k : Nat} (h : k < l.length) : (u64V l)[k]? = some (.int .u64 (lk l k)) := by simp [u64V, lk, h]
theorem intV_at {l : List Int} {k : Nat} (h : k < l.length) : (intV l)[k]? = some (.int .i64 (lk l k)) := by simp [intV, lk, h]
theorem ptrV_at {l : List Nat} {k g : Nat} (h : l[k]? = some g) : (ptrV l)[k]? = some (.pointer (some ⟨g, 0, none⟩)) := by simp [ptrV, h]
theorem qbl_q (h : Bank B w p cb lv s.vs s.lg) (k : Nat) : Calls Try.prog 14 #[.pointer (some ⟨p, 0, none⟩)] (w.drewN k) fun e w'' => e = .returned (.int .i64 (s.lg.length : Nat)) ∧ ∃ m, w'' = w.drewN m :=
  Calls.quiet_of_same ((len_any B p cb lv s (w.drewN k) (bank_drew h k)).mono fun e w' ⟨he, hw⟩ => ⟨he, hw.symm⟩)

/-- A row's element is set. -/
theorem own_set {e m : Nat} {v : Value} {xs : List Value} {g : Nat} (h : w.ownsRow B e 1 v m xs) (hg : v.ownBlock = some g) (j : Nat) (hj : j < m) (u : Value) : (w.setCell ⟨g, j, none⟩ u).ownsRow B e 1 v m (xs.set j u) := by
  obtain ⟨h1, h2⟩ := h
  refine ⟨by simpa using h1, ?_⟩
  rcases h2 with ⟨rfl, rfl⟩ | ⟨g', cap, cur, rfl, hB, hh, h3, h4, h5, h6⟩
  · omega
  · simp [Value.ownBlock] at hg
    subst hg
    right
    refine ⟨g', cap, cur.setIfInBounds j u, rfl, hB, ?_, h3, h4, by simpa using h5, ?_⟩
    · exact Blk.put (t := e) (cs := cur) hh j u
    · rw [← h6]
      simp [List.take_set]
end
end Go.Proofs.Ytpkjjlahmjijnaa
