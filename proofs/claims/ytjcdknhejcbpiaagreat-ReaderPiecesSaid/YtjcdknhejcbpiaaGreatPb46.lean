/- Texts XRnN, XFinA for XPcs, by trim.py. -/
import Derived.Test.YtjcdknhejcbpiaaGreatPb42
import Derived.Test.YtjcdknhejcbpiaaGreatPb45
namespace Go.Proofs.YtjcdknhejcbpiaaGreat
open Go.RowKit
set_option linter.unusedVariables false
set_option linter.unusedSimpArgs false
set_option linter.unusedSectionVars false
theorem rev_root {N : Nat} {s : ByteArray} {x : Rt} {ns : List An} (h : RopeRes N s x 0 ns) : RevOk ns ⟨0, x.a, x.h, x.b, x.r, x.l⟩ s.data.toList := by
  rcases h with ⟨h0, rfl, _, rfl⟩ | ⟨h0, t, hb, hg, hbt, ⟨_, rfl, _, hl, hy⟩ | ⟨_, _, h, _⟩⟩
  · have e : s.data.toList = [] := List.eq_nil_of_length_eq_zero (by rw [dsize]; exact h0)
    rw [e]
    exact ⟨rfl, rfl, rfl, .inl ⟨rfl, rfl⟩⟩
  · have ht := build_text hb
    have hm : t.meas = mL s.data.toList := by rw [meas_text, ht]
    refine ⟨?_, ?_, ?_, .inr ⟨t.cnt - 1, t, rfl, ?_, ht, rfl, hg, s, hb⟩⟩
    · show t.meas.b = _
      rw [hm]
    · show t.meas.r = _
      rw [hm]
    · show t.meas.l = _
      rw [hm]
    · have := rope_nt (ns := []) hl (fun j y hj => hy j y hj) (post_len t 0)
      simpa using this
  · cases h
/-- A list of things, seen anew, from an older world on. -/
theorem Mem.recastB {B B' : Nat} {w0 w0' w : World} {L : List Res} (h : Mem B w0 L w) (hB : B' ≤ B) (hb : Below B' w0' w0) (L' : List Res) (f : Nat → Nat) (hf : ∀ (i : Nat) (r' : Res), L'[i]? = some r' → ∃ r, L[f i]? = some r ∧ (r.holds w → r'.holds w) ∧ ∀ k, r'.foot k → r.foot k)
    (hi : ∀ i j, i < L'.length → j < L'.length → f i = f j → i = j) : Mem B' w0' L' w := by
  have hb2 : Below B' w0' w := hb.trans ⟨h.bel.os, h.bel.tape, h.bel.output, h.bel.size, fun k hk => h.bel.block k (by omega)⟩
  refine ⟨fun i r' hr => ?_, fun i j r' s' hr hs hne k hk hk' => ?_, fun i r' hr k hk => ?_, hb2, Nat.le_trans hB h.bz⟩
  · obtain ⟨r, h1, h2, _⟩ := hf i r' hr
    exact h2 (h.each _ r h1)
  · obtain ⟨r, h1, _, h3⟩ := hf i r' hr
    obtain ⟨s, g1, _, g3⟩ := hf j s' hs
    refine h.apart (f i) (f j) r s h1 g1 (fun e => hne (hi i j (List.getElem?_eq_some_iff.1 hr).1 (List.getElem?_eq_some_iff.1 hs).1 e)) k (h3 k hk) (g3 k hk')
  · obtain ⟨r, h1, _, h3⟩ := hf i r' hr
    exact Nat.le_trans hB (h.low _ r h1 k (h3 k hk))
/-- The cells of a new store. -/
def stoNew (N q cl n cN : Nat) (ge ba fe : Int) (s : ByteArray) (p ab qb eb rvb : Nat) (fv : Value) : Array Value := (stoCells [.int .i64 (N : Int), .int .u64 ge, .int .i64 (cl : Int), .int .i64 (n : Int), .int .i64 (q : Int), .int .i64 ba, .int .i64 fe, .string s, .int .i64 0, .int .i64 1, .int .i64 2, .int .i64 3, .int .i64 4, .int .i64 5, .int .i64 (5 + (q : Int)), .int .i64 (5 + (q : Int) + (cl : Int) * n), .int .i64 (5 + (q : Int) + (cl : Int) * n + cl), .int .i64 (cN : Int)] (.pointer (some ⟨p, 0, none⟩)) (.pointer (some ⟨ab, 0, none⟩)) (.pointer (some ⟨qb, 0, none⟩)) (.pointer (some ⟨eb, 0, none⟩)) fv (.slice (some ⟨rvb, 0, none⟩) 1 1) (List.replicate 8 OpV.zero) (List.replicate 8 (RsV.zero, .slice none 0 0))).toArray
/-- The state of a new run. -/
def RS.new (g lb n : Nat) (cl : Int) (sb p cb : Nat) (cs : Array Value) (cN eb rN q pb rvb : Nat) (x : Rt) (A : ArA) (ns : List An) : RS :=
  { g := g, r := Rd.new sb lb n cl, lb := lb, sl := List.replicate n none, cs := cs, p := p, cb := cb, lv := .slice none 0 0, s := ⟨List.replicate cN 0, []⟩, eb := eb, f := ⟨2, 5 + (q : Int), rN⟩, sc := .pointer none, pb := pb, ps := List.replicate rN none, rv := .slice (some ⟨rvb, 0, none⟩) 1 1, rs := [⟨⟨0, x.a, x.h, x.b, x.r, x.l⟩, .slice none 0 0, [], .slice none 0 0, []⟩], A := A, ns := ns, st := 0, tx := [] }
theorem rep_none {α : Type} {n k : Nat} {s : α} (h : (List.replicate n (none : Option α))[k]? = some (some s)) : False := by
  rw [List.getElem?_replicate] at h
  split at h
  · injection h with h
    cases h
  · cases h
theorem rep_map {α β : Type} (n : Nat) (f : Option α → Option β) (h : f none = none) : (List.replicate n (none : Option α)).map f = List.replicate n none := by
  rw [List.map_replicate, h]
set_option maxRecDepth 100000 in
theorem run_new {w0 w w1 : World} {N q cl : Nat} {ge re ba fe : Int} {s : ByteArray} {e : Ending} (hS : SnwOut N q cl ge re ba fe s w e w1) (hroom : ∀ x ns, ¬ RopeRes N s x 6 ns) (hbel : Below w0.heap.size w0 w) {n c m : Nat} (hre : re = (n : Int)) (hn : n ≤ 8) (hc : c < cl) (hcl : cl ≤ 8) (hq : 1 ≤ q) (hq2 : q ≤ 64) (hfe : 1 ≤ fe) (hm : c * n = m) (hs : s.size ≤ 65536) (hB : w0.heap.size ≤ w.heap.size) :
    ∃ (sb p cb eb pb rvb rN cN : Nat) (x : Rt) (A : ArA) (ns : List An) (cs : Array Value) (y : Ly), e = .returned (.tuple #[.pointer (some ⟨sb, 0, none⟩), .int .i64 0]) ∧ Blk w1 sb 125 cs ∧ (∀ (j : Nat) (v : Value), (Cf.arr ⟨N, ge, cl, re, q, ba, fe, s⟩)[j]? = some v → cs[j]? = some v) ∧ RopeRes N s x 0 ns ∧ A.n = N ∧ cl * n = rN ∧ y = ⟨0, 1, 2, 3, 4, 5, 5 + q, 5 + q + cl * re, 5 + q + cl * re + cl, cN⟩ ∧ Below w0.heap.size w0 w1 ∧ w0.heap.size ≤ w1.heap.size ∧ w0.heap.size ≤ sb ∧
      ∀ (w' : World) (g lb : Nat), Blk w' g 111 (Rd.cells (Rd.new sb lb n c)) → Blk w' lb 140 (pinsA (List.replicate n none)) → Ch (fun _ => False) w1 w' → w1.heap.size ≤ lb → lb < g →
        Mem w0.heap.size w0 ((RS.new g lb n c sb p cb cs cN eb rN q pb rvb x A ns).L w0.heap.size ++ [boxR []]) w' ∧ RnOk (RS.new g lb n c sb p cb cs cN eb rN q pb rvb x A ns) y n m [s.data.toList] none ∧ PgAt (RS.new g lb n c sb p cb cs cN eb rN q pb rvb x A ns) [] n m [s.data.toList] (.fin RsV.zero) := by
  rcases hS with ⟨x, ns, hr, _⟩ | ⟨x, ns, sb, p, cb, A, qb, eb, pb, rvb, rN, cN, fv, fds, hr, P, he, hAn, hfl, hrN, hcN, _, hM⟩
  · exact absurd hr (hroom x ns)
  subst hre
  have hbl : Below w0.heap.size w0 w1 := hbel.trans ⟨hM.bel.os, hM.bel.tape, hM.bel.output, hM.bel.size, fun k hk => hM.bel.block k (by omega)⟩
  have hsz : w0.heap.size ≤ w1.heap.size := Nat.le_trans hB hM.bel.size
  have hnn : (c + 1) * n ≤ cl * n := Nat.mul_le_mul_right _ hc
  have hrN' : cl * n = rN := by
    have : ((cl * n : Nat) : Int) = rN := by push_cast; exact hrN
    omega
  have hmn : m + n ≤ rN := by rw [← hm, ← hrN']; rw [Nat.add_mul, Nat.one_mul] at hnn; exact hnn
  have hcl8 : cl * n ≤ 8 * 8 := Nat.mul_le_mul hcl hn
  have hBk := hM.each 1 _ rfl
  have hvn : cN ≤ 4096 := by have := hBk.hn; rwa [List.length_replicate] at this
  have hclfe : (0 : Int) ≤ cl * (4 + fe) := Int.mul_nonneg (by omega) (by omega)
  refine ⟨sb, p, cb, eb, pb, rvb, rN, cN, x, A, ns, stoNew N q cl n cN ge ba fe s p A.ab qb eb rvb fv, ⟨0, 1, 2, 3, 4, 5, 5 + q, 5 + q + cl * n, 5 + q + cl * n + cl, cN⟩, he, hM.each 0 _ rfl, ?_, hr, hAn, hrN', rfl, hbl, hsz, Nat.le_trans hB (hM.low 0 _ rfl sb rfl), fun w' g lb bg bl ch hl1 hl2 => ⟨?_, ?_, ?_⟩⟩
  · intro j v hj
    have hj8 : j < 8 := by
      have := (Array.getElem?_eq_some_iff.1 hj).1
      simpa [Cf.arr] using this
    have : j = 0 ∨ j = 1 ∨ j = 2 ∨ j = 3 ∨ j = 4 ∨ j = 5 ∨ j = 6 ∨ j = 7 := by omega
    rcases this with rfl | rfl | rfl | rfl | rfl | rfl | rfl | rfl <;> exact hj
  · have h7 := mem_drop hM
    have h9 := h7.addTwo (w' := w') ch (blkR lb 140 (pinsA (List.replicate n none))) (blkR g 111 (Rd.cells (Rd.new sb lb n c))) bl bg (fun k hk => by rw [show k = lb from hk]; exact hl1) (fun k hk => by rw [show k = g from hk]; omega) (fun k hk e => by
      have e1 : k = lb := hk
      have e2 : k = g := e
      omega)
    have h11 := h9.addTwo (w' := w') (Ch.refl _ _) (rowR w0.heap.size 5 1 0 (.slice none 0 0) []) (boxR []) (World.ownsRow_nil _ _ _ _) (fun b hb => by cases hb) (fun k hk => by cases hk) (fun k hk => by obtain ⟨b, hb, _⟩ := hk; cases hb) (fun k hk => by cases hk)
    refine Mem.recastB h11 hB hbel _ (fun i => [9, 8, 0, 1, 5, 6, 3, 2, 10, 11].getD i 0) (fun i r' hi => ?_) (fun i j hi hj e => ?_)
    · match i, hi with
      | 0, hi => injection hi with hi; subst hi; exact ⟨_, rfl, fun h => h, fun _ h => h⟩
      | 1, hi =>
        injection hi with hi
        subst hi
        exact ⟨_, rfl, fun h => ⟨by rw [show (RS.new g lb n c sb p cb (stoNew N q cl n cN ge ba fe s p A.ab qb eb rvb fv) cN eb rN q pb rvb x A ns).sl = List.replicate n none from rfl, rep_map n sptr rfl]; exact h, fun k s hs => (rep_none hs).elim, fun j k s t hs => (rep_none hs).elim⟩, fun k hk => by
          rcases hk with hk | ⟨j, s, hs, _⟩
          · exact hk
          · exact (rep_none hs).elim⟩
      | 2, hi => injection hi with hi; subst hi; exact ⟨_, rfl, fun h => h, fun _ h => h⟩
      | 3, hi =>
        injection hi with hi
        subst hi
        exact ⟨_, rfl, fun h => ⟨h.hp, h.hc, own_mono h.hl hB, h.hv, h.hn, Nat.le_trans hB h.bp, Nat.le_trans hB h.bc⟩, fun _ h => h⟩
      | 4, hi => injection hi with hi; subst hi; exact ⟨_, rfl, fun h => h, fun _ h => h⟩
      | 5, hi =>
        injection hi with hi
        subst hi
        exact ⟨_, rfl, fun h => ⟨by rw [show (RS.new g lb n c sb p cb (stoNew N q cl n cN ge ba fe s p A.ab qb eb rvb fv) cN eb rN q pb rvb x A ns).ps = List.replicate rN none from rfl, rep_map rN (Option.map Prod.fst) rfl, ← pins_none]; exact h, fun k s hs => (rep_none hs).elim, fun j k s t hs => (rep_none hs).elim⟩, fun k hk => by
          rcases hk with hk | ⟨j, s, hs, _⟩
          · exact hk
          · exact (rep_none hs).elim⟩
      | 6, hi =>
        injection hi with hi
        subst hi
        exact ⟨_, rfl, fun h => ⟨own_mono h hB, fun r hr => by
          rw [List.mem_singleton.1 hr]
          exact ⟨World.ownsRow_nil _ _ _ _, World.ownsRow_nil _ _ _ _⟩⟩, fun k hk => by
          rcases hk with hk | ⟨r, hr, hk⟩
          · exact hk
          · rw [List.mem_singleton.1 hr] at hk
            rcases hk with hk | hk <;> cases hk⟩
      | 7, hi => injection hi with hi; subst hi; exact ⟨_, rfl, fun h => h, fun _ h => h⟩
      | 8, hi => injection hi with hi; subst hi; exact ⟨_, rfl, fun h => h, fun _ h => h⟩
      | 9, hi => injection hi with hi; subst hi; exact ⟨_, rfl, fun h => h, fun _ h => h⟩
      | i + 10, hi => simp [RS.L] at hi
    · have h1 : i < 10 := hi
      have h2 : j < 10 := hj
      have key : ∀ a < 10, ∀ b < 10, [9, 8, 0, 1, 5, 6, 3, 2, 10, 11].getD a 0 = [9, 8, 0, 1, 5, 6, 3, 2, 10, 11].getD b 0 → a = b := by decide
      exact key i h1 j h2 e
  · have hslot : ∀ i, (Ed.mk 2 (5 + (q : Int)) rN).slot i = 5 + q + i := fun i => by show (5 + (q : Int) + (i : Int)).toNat = 5 + q + i; omega
    have hcN' : 5 + q + rN < cN := by omega
    have hstf : StF (stoNew N q cl n cN ge ba fe s p A.ab qb eb rvb fv) p A.ab eb ⟨0, 1, 2, 3, 4, 5, 5 + q, 5 + q + cl * n, 5 + q + cl * n + cl, cN⟩ := ⟨rfl, rfl, rfl, fun j v hj => by
      have hj10 : j < 10 := by
        have := (Array.getElem?_eq_some_iff.1 hj).1
        simpa [Ly.arr] using this
      have : j = 0 ∨ j = 1 ∨ j = 2 ∨ j = 3 ∨ j = 4 ∨ j = 5 ∨ j = 6 ∨ j = 7 ∨ j = 8 ∨ j = 9 := by omega
      rcases this with rfl | rfl | rfl | rfl | rfl | rfl | rfl | rfl | rfl | rfl <;> exact hj⟩
    have hO : (RS.new g lb n c sb p cb (stoNew N q cl n cN ge ba fe s p A.ab qb eb rvb fv) cN eb rN q pb rvb x A ns).Ok ⟨0, 1, 2, 3, 4, 5, 5 + q, 5 + q + cl * n, 5 + q + cl * n + cl, cN⟩ n m := {
      sl := rfl
      nl := List.length_replicate
      n8 := hn
      cl := ⟨by show (0 : Int) ≤ (c : Int); omega, by show (c : Int) < 16; omega⟩
      hm := by show (c : Int) * (n : Int) = (m : Int); rw [← hm]; push_cast; rfl
      mn := hmn
      pl := List.length_replicate
      stf := hstf
      h23 := rfl
      ed := ⟨by show 2 < (List.replicate cN (0 : Int)).length; rw [List.length_replicate]; omega, by show rN ≤ 64; omega, fun i hi => by
        have hi : i < rN := hi
        show 0 ≤ 5 + (q : Int) + i ∧ 5 + (q : Int) + i < ((List.replicate cN (0 : Int)).length : Nat)
        rw [List.length_replicate]
        omega⟩
      y0 := rfl
      y1 := rfl
      vs := by show 3 ≤ (List.replicate cN (0 : Int)).length ∧ (List.replicate cN (0 : Int)).length ≤ 4096; rw [List.length_replicate]; omega
      lg := by show 0 < 900000; decide
      f0 := ⟨by show (2 : Nat) ≠ 0; decide, by show (2 : Nat) ≠ 1; decide⟩
      fs := fun i hi => by show 2 < (Ed.mk 2 (5 + (q : Int)) rN).slot i; rw [hslot]; omega }
    refine ⟨hO, P, rfl, by simp, fun tx htx => ?_, fun i r tx hi ht => ?_, ⟨0, lk_rep _ _, by simp⟩, fun k s hs => (rep_none hs).elim, fun k hk _ => .inl ⟨?_, ?_, lk_rep _ _⟩, by show 0 ≤ lk (List.replicate cN (0 : Int)) 2 ∧ lk (List.replicate cN (0 : Int)) 2 < 1000000; rw [lk_rep]; decide, fun i hi => by show (Ed.mk 2 (5 + (q : Int)) rN).slot i ≠ 2; rw [hslot]; omega⟩
    · rw [List.mem_singleton.1 htx, dsize]
      omega
    · match i, hi, ht with
      | 0, hi, ht =>
        injection hi with hi
        injection ht with ht
        subst hi ht
        exact ⟨rev_root hr, rfl, Nat.zero_le _, Nat.zero_le _⟩
      | i + 1, hi, ht => simp at ht
    · exact List.getElem?_replicate_of_lt hk
    · exact List.getElem?_replicate_of_lt (by omega)
  · exact ⟨rfl, rfl, rfl⟩
end Go.Proofs.YtjcdknhejcbpiaaGreat
namespace Go.Proofs.YtjcdknhejcbpiaaGreat
open Go.RowKit
set_option linter.unusedVariables false
set_option linter.unusedSimpArgs false
set_option linter.unusedSectionVars false
section
variable {B : Nat} {w0 w : World} {R : List Res} {σ σ' : RS} {bs' : List Bx} {y : Ly} {n m : Nat} {ts : List (List UInt8)}
/-- How an acquisition or a release ends. -/
def AnnEnd (σ : RS) (m : Nat) (c : Cop) (σ' : RS) (x : RsV) : Prop := match c with
  | .acq => AcqEnd σ m σ' x
  | .rel k => RelEnd σ m k σ' x
  | _ => False
theorem fin_acq (M : Mem B w0 (σ.L B ++ (boxR bs' :: R)) w) (K : RnOk σ y n m ts none) (hb : σ.r.busy = false) (hl : σ.s.lg.length < 700000) :
    Calls Tryz.prog 12 #[.pointer (some ⟨σ.g, 0, none⟩), Cop.acq.op.v] w (FinTo B w0 R σ y n m ts (fun _ σ' x => AnnEnd σ m .acq σ' x)) := by
  refine finish_any .acq (fun f _ σ1 pg => AcqK σ m σ1 f pg ∧ (f < 4 → lk σ.s.vs 0 = 0)) _ M hl (fun R' W M' => beg_acq M' K hb) (fun σ1 bs1 pg S h1 h2 _ _ hs => ?_) (fun f phs σ1 σ2 hv pg pg' hK K1 K2 S1 S2 hn => ?_) (fun f phs σ1 pg hK => ?_)
  · rcases hs with ⟨_, rfl⟩ | ⟨h, _⟩
    · exact ⟨4, by decide, .a4 h1 h2, fun h => absurd h (by decide)⟩
    · exact absurd rfl h
  · rcases acqK_step hK.1 S1 hK.2 K K1 hn with ⟨x, hx, he⟩ | ⟨he, f', hf, h0, hk⟩
    · exact .inl ⟨x, hx, he⟩
    · exact .inr ⟨he, f', by omega, hk, fun _ => h0⟩
  · obtain ⟨h, _⟩ := hK
    cases h <;> decide
end
end Go.Proofs.YtjcdknhejcbpiaaGreat
