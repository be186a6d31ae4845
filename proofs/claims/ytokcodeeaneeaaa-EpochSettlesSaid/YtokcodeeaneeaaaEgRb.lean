/- Runs of an epoch: events, quiet calls. -/
import Derived.Test.YtokcodeeaneeaaaEgRa
import Derived.Test.YtokcodeeaneeaaaMixJ
import Derived.Test.YtokcodeeaneeaaaFrame
namespace Go.Proofs.Ytokcodeeaneeaaa
open Go.RowKit
set_option linter.unusedVariables false
set_option linter.unusedSimpArgs false
set_option linter.unusedSectionVars false

/-- An event. -/
structure EvG where
  d : Int
  t : Int
  k : Int
def EvG.cells (x : EvG) : List Value := [.int .u8 x.d, .int .i64 x.t, .int .i64 x.k]
def evGKs : List (Option IntKind) := [some .u8, some .i64, some .i64]
def EvG.ok (x : EvG) : Prop := (0 ≤ x.d ∧ x.d < 256) ∧ (-9223372036854775808 ≤ x.t ∧ x.t < 9223372036854775808) ∧ (-9223372036854775808 ≤ x.k ∧ x.k < 9223372036854775808)
theorem evg_of_fits {vs : List Value} (h : Fits evGKs vs) : ∃ x : EvG, vs = x.cells ∧ x.ok := by
  obtain ⟨hl, hf⟩ := h
  obtain ⟨v0, e0, n0, rfl, w0⟩ := hf 0 _ rfl
  obtain ⟨v1, e1, n1, rfl, w1⟩ := hf 1 _ rfl
  obtain ⟨v2, e2, n2, rfl, w2⟩ := hf 2 _ rfl
  refine ⟨⟨n0, n1, n2⟩, ?_, wf_u8 w0, wf_i64 w1, wf_i64 w2⟩
  match vs, hl with
  | [a, b, c], _ => simp at e0 e1 e2; simp [EvG.cells, e0, e1, e2]
/-- The events that came in. -/
def InEvG (w : World) (a : Option Addr) (n : Nat) (xs : List EvG) : Prop :=
  xs.length = n ∧ (∀ x ∈ xs, x.ok) ∧ (0 < n → ∃ b off, a = some ⟨b, off, none⟩ ∧ b < w.heap.size ∧ ∀ (i j : Nat) x v, xs[i]? = some x → x.cells[j]? = some v → w.cell? ⟨b, off + (i * 3 + j), none⟩ = some v)
theorem in_evg {w : World} {a : Option Addr} {n : Nat} {ls : List (List Value)} (h : InRows evGKs w a n ls) : ∃ xs, InEvG w a n xs := by
  obtain ⟨hl, hf, hc⟩ := h
  obtain ⟨xs, hxl, hx⟩ := exists_list (R := fun i (x : EvG) => ls[i]? = some x.cells ∧ x.ok) n (fun i hi => by
    have h0 : ls[i]? = some (ls[i]'(by omega)) := List.getElem?_eq_getElem (by omega)
    obtain ⟨x, hx, ho⟩ := evg_of_fits (hf _ (List.getElem_mem (by omega : i < ls.length)))
    exact ⟨x, by rw [h0, hx], ho⟩)
  refine ⟨xs, hxl, fun x hm => ?_, fun h0 => ?_⟩
  · obtain ⟨i, hi⟩ := List.getElem?_of_mem hm
    exact (hx i x hi).2
  · obtain ⟨b, off, rfl, hb, hcell⟩ := hc h0
    exact ⟨b, off, rfl, hb, fun i j x v hi hj => hcell i j _ v (hx i x hi).1 hj⟩
theorem InEvG.below {B : Nat} {w w' : World} {a : Option Addr} {n : Nat} {xs : List EvG} (h : InEvG w a n xs) (hb : Below w.heap.size w w') : InEvG w' a n xs :=
  ⟨h.1, h.2.1, fun h0 => by
    obtain ⟨b, off, rfl, hlt, hc⟩ := h.2.2 h0
    exact ⟨b, off, rfl, Nat.lt_of_lt_of_le hlt hb.size, fun i j x v hi hj => (hb.cell (p := ⟨b, off + (i * 3 + j), none⟩) hlt).trans (hc i j x v hi hj)⟩⟩

theorem epn_next_q {qb g : Nat} {w : World} {q : Pn} (hq : Blk w g 117 (pnCells qb g q)) (k : Nat) : Calls Try.prog 21 #[.pointer (some ⟨g, 0, none⟩)] (w.drewN k) fun e w'' => e = .returned (.int .u8 q.ph) ∧ ∃ m, w'' = w.drewN m :=
  Calls.quiet_of_same ((pn_next qb g (w.drewN k) q (hq.drewN k)).mono fun e w' ⟨he, hw⟩ => ⟨he, hw.symm⟩)
theorem eg_now_q {B p cb qb n : Nat} {lv pins sc : Value} {x : Xr} {w : World} (h : EpochM B w p cb qb lv x.s (edf n) pins sc) (k : Nat) : Calls Try.prog 17 #[.pointer (some ⟨qb, 0, none⟩)] (w.drewN k) fun e w'' => e = .returned (.int .u64 x.now) ∧ ∃ m, w'' = w.drewN m := now_q B p cb qb lv x.s (edf n) pins sc w h k
/-- The slots that are announced, so far. -/
def onPart (x : Xr) (n q : Nat) : List Bool := (x.ps.map isOn).take q ++ List.replicate (n - q) false
theorem onPart_zero (x : Xr) (n : Nat) : onPart x n 0 = List.replicate n false := by simp [onPart]
theorem onPart_all {x : Xr} {n : Nat} (h : x.ps.length = n) : onPart x n n = x.ps.map isOn := by
  subst h
  simp [onPart, List.take_of_length_le]
theorem onPart_succ {x : Xr} {n q : Nat} (h : x.ps.length = n) (hq : q < n) : onPart x n (q + 1) = (onPart x n q).set q (isOn (x.pin q)) := by
  have h1 : (x.ps.map isOn)[q]? = some (isOn (x.pin q)) := by
    unfold Xr.pin
    rw [List.getElem?_map, List.getElem?_eq_getElem (by omega)]; rfl
  unfold onPart
  rw [List.set_append_right _ _ (by simp; omega)]
  simp only [List.length_take, List.length_map, h, Nat.min_eq_left (Nat.le_of_lt hq), Nat.sub_self]
  rw [List.take_add_one, h1, show n - q = (n - (q + 1)) + 1 by omega, List.replicate_succ, List.append_assoc]
  rfl
theorem madeX_bool (n : Nat) : madeX #[.bool false] n = boolA (List.replicate n false) := by
  rw [madeX_repG]
  simp [boolA]
theorem Mem.oldAt {B p cb qb pb pr X lb n : Nat} {lv v0 v1 v2 : Value} {lc : Array Value} {s : BS} {fine : Bool} {ps ps' : List (Option Nat)} {sc rsc : Value} {scR : Res} {o0 o1 o2 : List Int} {L9 Lo : List Res} {A : Option Addr} {m c j : Nat} {go : List (Nat × Rt)} {y : Nat × Rt} {w0 w : World}
    (h : Mem B w0 (egL B p cb qb pb pr X lb n lv (.slice A m c) v0 v1 v2 lc s fine ps ps' sc rsc scR o0 o1 o2 m (goV n go) L9 Lo) w) (hy : go[j]? = some y) : ∃ gr, A = some ⟨gr, 0, none⟩ ∧ m ≤ c ∧ w.cell? ⟨gr, j * 3 + 1, none⟩ = some (.slice (some ⟨y.1, 0, none⟩) n n) ∧ w.cell? ⟨gr, j * 3 + 2, none⟩ = some (.bool y.2.due) := by
  have hr : w.ownsRow B 86 3 (.slice A m c) m (goV n go) := h.each 8 _ rfl
  obtain ⟨g1, c1, e1, h1, a1, _⟩ := own_at3 hr (goV_at hy (j := 1) rfl)
  obtain ⟨g2, c2, e2, h2, a2, _⟩ := own_at3 hr (goV_at hy (j := 2) rfl)
  injection e1 with e3 _ e4
  injection e2 with e5 _ _
  subst e3 e4
  injection e5 with e5
  injection e5 with e5
  subst e5
  exact ⟨g1, rfl, h1, a1, a2⟩
theorem oldAt_inj {A : Option Addr} {g : Nat} (h : A = some ⟨g, 0, none⟩) {g' : Nat} (h' : A = some ⟨g', 0, none⟩) : g = g' := by
  rw [h] at h'
  injection h' with h'
  injection h'
theorem Mem.add2 {B : Nat} {w0 w w' : World} {L : List Res} (h : Mem B w0 L w) (r s : Res) (c : Ch (fun _ => False) w w') (hr : r.holds w') (hs : s.holds w') (hrf : ∀ k, r.foot k → w.heap.size ≤ k) (hsf : ∀ k, s.foot k → w.heap.size ≤ k) (hne : ∀ k, r.foot k → ¬ s.foot k) : Mem B w0 (L ++ [r] ++ [s]) w' := by
  refine (h.add r c hr hrf).addG s hs (fun t ht k hk hk' => ?_) (fun k hk => Nat.le_trans h.bz (hsf k hk))
  rcases List.mem_append.1 ht with ht | ht
  · obtain ⟨i, hi⟩ := List.getElem?_of_mem ht
    have := t.lt (h.each i t hi) k hk
    have := hsf k hk'
    omega
  · rw [List.mem_singleton] at ht
    subst ht
    exact hne k hk hk'
section
variable {B p cb qb pb pr X lb n ms D : Nat} {lv ov v0 v1 v2 : Value} {lc : Array Value} {s : BS} {fine : Bool} {ps ps' : List (Option Nat)} {sc rsc : Value} {scR r : Res} {o0 o1 o2 : List Int} {om : Nat} {orow : List Value} {L9 : List Res} {l : List Bool} {go : List (Nat × Rt)} {w0 w : World}
theorem Mem.putOn (h : Mem B w0 (egL B p cb qb pb pr X lb n lv ov v0 v1 v2 lc s fine ps ps' sc rsc scR o0 o1 o2 om orow L9 (go.map goR ++ [blkR ms 4 (boolA l)] ++ [r])) w) (hL : L9.length = n) (q : Nat) (b : Bool) :
    Mem B w0 (egL B p cb qb pb pr X lb n lv ov v0 v1 v2 lc s fine ps ps' sc rsc scR o0 o1 o2 om orow L9 (go.map goR ++ [blkR ms 4 (boolA (l.set q b))] ++ [r])) (w.setCell ⟨ms, q, none⟩ (.bool b)) := by
  have t := h.put (i := 10 + n + go.length) (egL_atO (r := blkR ms 4 (boolA l)) hL (by simp)) q (.bool b)
  rw [boolA_set, egL_setO hL] at t
  have e : (go.map goR ++ [blkR ms 4 (boolA l)] ++ [r]).set go.length (blkR ms 4 (boolA (l.set q b))) = go.map goR ++ [blkR ms 4 (boolA (l.set q b))] ++ [r] := by
    rw [List.append_assoc, List.set_append_right _ _ (by simp)]
    simp
  rw [e] at t
  exact t
theorem Mem.dropD {y : Rt} (h : Mem B w0 (egL B p cb qb pb pr X lb n lv ov v0 v1 v2 lc s fine ps ps' sc rsc scR o0 o1 o2 om orow L9 (go.map goR ++ [blkR ms 4 (boolA y.sl)] ++ [r])) w) :
    Mem B w0 (egL B p cb qb pb pr X lb n lv ov v0 v1 v2 lc s fine ps ps' sc rsc scR o0 o1 o2 om orow L9 ((go ++ [(ms, y)]).map goR)) w := by
  rw [← egL_add] at h
  have t := h.drop1
  rw [List.map_append]
  exact t
end
/-- A run so far. -/
def EgSo (p cb qb pb pr X lb n M : Nat) (w0 w : World) : Prop :=
  ∃ lv ov v0 v1 v2 x gp gs go, RunG (gbOf gp) w0.heap.size p cb qb pb pr X lb n M lv ov v0 v1 v2 x gp gs go w0 w ∧ GInv n M x
/-- What run leaves. -/
def EgEnd (n M : Nat) (w : World) (e : Ending) (w' : World) : Prop :=
  ∃ p cb qb pb pr X lb, e = .returned (.pointer (some ⟨X, 0, none⟩)) ∧ EgSo p cb qb pb pr X lb n M w w'
/-- The event's slot. -/
theorem slot_of (k : Int) (n : Nat) (hn : 0 < n) (hn5 : n ≤ 5) : (-(n : Int) < k.tmod n ∧ k.tmod n < n) ∧ ∃ j : Nat, j < n ∧ (k.tmod n + n) % (n : Int) = j := by
  have t1 : k.tmod (n : Int) < n := Int.tmod_lt_of_pos _ (by omega)
  have t2 : -(n : Int) < k.tmod (n : Int) := by
    have := Int.lt_tmod_of_pos k (show (0 : Int) < n by omega)
    omega
  have h1 := Int.emod_nonneg (k.tmod n + n) (show (n : Int) ≠ 0 by omega)
  have h2 := Int.emod_lt_of_pos (k.tmod n + n) (show (0 : Int) < n by omega)
  exact ⟨⟨t2, t1⟩, ((k.tmod n + n) % (n : Int)).toNat, by omega, by omega⟩
end Go.Proofs.Ytokcodeeaneeaaa
