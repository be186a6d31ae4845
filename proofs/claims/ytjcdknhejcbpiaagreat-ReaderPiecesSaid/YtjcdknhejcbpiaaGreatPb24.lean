/- Texts XRdB, XRdC, XRdD for XPcs, by trim.py. -/
import Derived.Test.YtjcdknhejcbpiaaGreatPb23
import Derived.Test.YtjcdknhejcbpiaaGreatPb18
import Derived.Test.YtjcdknhejcbpiaaGreatPb11
import Derived.Test.YtjcdknhejcbpiaaGreatPb05
namespace Go.Proofs.YtjcdknhejcbpiaaGreat
open Go.RowKit
set_option linter.unusedVariables false
set_option linter.unusedSimpArgs false
set_option linter.unusedSectionVars false
structure Ly where
  l0 : Int
  l1 : Int
  l2 : Int
  l3 : Int
  l4 : Int
  l5 : Int
  l6 : Int
  l7 : Int
  l8 : Int
  l9 : Int
def Ly.arr (y : Ly) : Array Value := #[.int .i64 y.l0, .int .i64 y.l1, .int .i64 y.l2, .int .i64 y.l3, .int .i64 y.l4, .int .i64 y.l5, .int .i64 y.l6, .int .i64 y.l7, .int .i64 y.l8, .int .i64 y.l9]
/-- What a store's cells are: its objects and its layout. -/
structure StF (cs : Array Value) (p ab eb : Nat) (y : Ly) : Prop where
  bank : cs[18]? = some (.pointer (some ⟨p, 0, none⟩))
  arena : cs[19]? = some (.pointer (some ⟨ab, 0, none⟩))
  epoch : cs[21]? = some (.pointer (some ⟨eb, 0, none⟩))
  lay : ∀ (j : Nat) (v : Value), y.arr[j]? = some v → cs[8 + j]? = some v
section
variable {sb p ab eb : Nat} {y : Ly} {cs : Array Value}
set_option maxRecDepth 100000 in
theorem sbank_any (w : World) (hS : Blk w sb 125 cs) (hF : StF cs p ab eb y) : Calls Tryz.prog 26 #[.pointer (some ⟨sb, 0, none⟩)] w fun e w' => e = .returned (.pointer (some ⟨p, 0, none⟩)) ∧ w = w' := by
  have a18 : w.cell? ⟨sb, 18, none⟩ = some (.pointer (some ⟨p, 0, none⟩)) := (hS.cell 18).trans hF.bank
  clear hS hF
  go_enter Tryz.func26, Tryz.ntmps26
  go_wp2_with fail
  go_ret
  exact ⟨rfl, rfl⟩
theorem sbank_q (w : World) (hS : Blk w sb 125 cs) (hF : StF cs p ab eb y) (k : Nat) : Calls Tryz.prog 26 #[.pointer (some ⟨sb, 0, none⟩)] (w.drewN k) fun e w'' => e = .returned (.pointer (some ⟨p, 0, none⟩)) ∧ ∃ m, w'' = w.drewN m :=
  Calls.quiet_of_same ((sbank_any (w.drewN k) (hS.drewN k) hF).mono fun e w' ⟨he, hw⟩ => ⟨he, hw.symm⟩)
set_option maxRecDepth 100000 in
theorem sarena_any (w : World) (hS : Blk w sb 125 cs) (hF : StF cs p ab eb y) : Calls Tryz.prog 35 #[.pointer (some ⟨sb, 0, none⟩)] w fun e w' => e = .returned (.pointer (some ⟨ab, 0, none⟩)) ∧ w = w' := by
  have a19 : w.cell? ⟨sb, 19, none⟩ = some (.pointer (some ⟨ab, 0, none⟩)) := (hS.cell 19).trans hF.arena
  clear hS hF
  go_enter Tryz.func35, Tryz.ntmps35
  go_wp2_with fail
  go_ret
  exact ⟨rfl, rfl⟩
set_option maxRecDepth 100000 in
theorem sepoch_any (w : World) (hS : Blk w sb 125 cs) (hF : StF cs p ab eb y) : Calls Tryz.prog 97 #[.pointer (some ⟨sb, 0, none⟩)] w fun e w' => e = .returned (.pointer (some ⟨eb, 0, none⟩)) ∧ w = w' := by
  have a21 : w.cell? ⟨sb, 21, none⟩ = some (.pointer (some ⟨eb, 0, none⟩)) := (hS.cell 21).trans hF.epoch
  clear hS hF
  go_enter Tryz.func97, Tryz.ntmps97
  go_wp2_with fail
  go_ret
  exact ⟨rfl, rfl⟩
theorem sepoch_q (w : World) (hS : Blk w sb 125 cs) (hF : StF cs p ab eb y) (k : Nat) : Calls Tryz.prog 97 #[.pointer (some ⟨sb, 0, none⟩)] (w.drewN k) fun e w'' => e = .returned (.pointer (some ⟨eb, 0, none⟩)) ∧ ∃ m, w'' = w.drewN m :=
  Calls.quiet_of_same ((sepoch_any (w.drewN k) (hS.drewN k) hF).mono fun e w' ⟨he, hw⟩ => ⟨he, hw.symm⟩)
set_option maxRecDepth 100000 in
set_option maxHeartbeats 1000000 in
theorem slayout_any (w : World) (hS : Blk w sb 125 cs) (hF : StF cs p ab eb y) : Calls Tryz.prog 27 #[.pointer (some ⟨sb, 0, none⟩)] w fun e w' => e = .returned (.agg y.arr) ∧ Ch (fun _ => False) w w' := by
  have hl := hS.lt
  have n1 : sb ≠ w.heap.size := Nat.ne_of_lt hl
  have n2 : w.heap.size ≠ sb := Ne.symm n1
  have b0 : w.cell? ⟨sb, 8, none⟩ = some (.int .i64 y.l0) := (hS.cell 8).trans (hF.lay 0 _ rfl)
  have b1 : w.cell? ⟨sb, 9, none⟩ = some (.int .i64 y.l1) := (hS.cell 9).trans (hF.lay 1 _ rfl)
  have b2 : w.cell? ⟨sb, 10, none⟩ = some (.int .i64 y.l2) := (hS.cell 10).trans (hF.lay 2 _ rfl)
  have b3 : w.cell? ⟨sb, 11, none⟩ = some (.int .i64 y.l3) := (hS.cell 11).trans (hF.lay 3 _ rfl)
  have b4 : w.cell? ⟨sb, 12, none⟩ = some (.int .i64 y.l4) := (hS.cell 12).trans (hF.lay 4 _ rfl)
  have b5 : w.cell? ⟨sb, 13, none⟩ = some (.int .i64 y.l5) := (hS.cell 13).trans (hF.lay 5 _ rfl)
  have b6 : w.cell? ⟨sb, 14, none⟩ = some (.int .i64 y.l6) := (hS.cell 14).trans (hF.lay 6 _ rfl)
  have b7 : w.cell? ⟨sb, 15, none⟩ = some (.int .i64 y.l7) := (hS.cell 15).trans (hF.lay 7 _ rfl)
  have b8 : w.cell? ⟨sb, 16, none⟩ = some (.int .i64 y.l8) := (hS.cell 16).trans (hF.lay 8 _ rfl)
  have b9 : w.cell? ⟨sb, 17, none⟩ = some (.int .i64 y.l9) := (hS.cell 17).trans (hF.lay 9 _ rfl)
  clear hS hF
  go_enter Tryz.func27, Tryz.ntmps27
  go_wp2_with fail
  refine bodyPost_ret (v := .agg y.arr) ?_ rfl ⟨rfl, below_ch ?_⟩
  · simp [results, Tryz.results27, go_sem, Ly.arr]
  · repeat (refine Below.setCell ?_ (by simp) _)
    exact (Below.refl _ _).alloc (Nat.le_refl _) _
end
/-- The first slot that is free, or -1. -/
def free1 : List (Option Nat) → Nat → Int
  | [], _ => -1
  | none :: _, k => k
  | some _ :: l, k => free1 l (k + 1)
theorem free1_at : ∀ (l : List (Option Nat)) (k i : Nat), l[i]? = some none → (∀ j < i, ∃ g, l[j]? = some (some g)) → free1 l k = ((k + i : Nat) : Int)
  | [], k, i, h, _ => by simp at h
  | none :: l, k, 0, h, _ => by simp [free1]
  | none :: l, k, i + 1, h, hj => by
    obtain ⟨g, hg⟩ := hj 0 (by omega)
    simp at hg
  | some g :: l, k, 0, h, _ => by simp at h
  | some g :: l, k, i + 1, h, hj => by
    simp only [free1]
    rw [free1_at l (k + 1) i (by simpa using h) (fun j hji => by
      obtain ⟨g, hg⟩ := hj (j + 1) (by omega)
      exact ⟨g, by simpa using hg⟩)]
    congr 1
    omega
theorem free1_none : ∀ (l : List (Option Nat)) (k : Nat), (∀ j < l.length, ∃ g, l[j]? = some (some g)) → free1 l k = -1
  | [], k, _ => rfl
  | none :: l, k, hj => by
    obtain ⟨g, hg⟩ := hj 0 (by simp)
    simp at hg
  | some g :: l, k, hj => by
    simp only [free1]
    exact free1_none l (k + 1) (fun j hji => by
      obtain ⟨g, hg⟩ := hj (j + 1) (by simpa using hji)
      exact ⟨g, by simpa using hg⟩)
set_option maxRecDepth 100000 in
set_option maxHeartbeats 1000000 in
theorem index_any (lb n : Nat) (l : List (Option Nat)) (w : World) (h : Blk w lb 140 (pinsA l)) (hl : l.length = n) (hn : n < 1000) :
    Calls Tryz.prog 96 #[.slice (some ⟨lb, 0, none⟩) n n, .pointer none] w fun e w' => e = .returned (.int .i64 (free1 l 0)) ∧ w = w' := by
  have H := hid h
  have HL := hid hl
  clear h hl
  go_enter Tryz.func96, Tryz.ntmps96
  go_wp2_with fail
  go_loopw [8] (fun i W => ∃ k : Nat, k ≤ n ∧ i = .int .i64 (k : Int) ∧ (∀ j < k, ∃ g, l[j]? = some (some g)) ∧ w = W) (fun i _ => n - (intOf i).toNat)
  case atStart => exact ⟨0, Nat.zero_le _, rfl, fun j h => by omega, rfl⟩
  case round =>
    obtain ⟨k, hk, rfl, hj, rfl⟩ := hrel
    have HJ := hid hj
    clear hj
    by_cases hlt : k < n
    · have d1 : decide ((k : Int) < (n : Int)) = true := decide_eq_true (by omega)
      have d2 : decide (k < n) = true := decide_eq_true hlt
      obtain ⟨o, ho⟩ : ∃ o, l[k]? = some o := ⟨l[k]'(by rw [HL.out]; exact hlt), List.getElem?_eq_getElem _⟩
      have HO := hid ho
      have CK0 := hid (show w.cell? ⟨lb, k, none⟩ = some (pinV o) from (H.out.cell k).trans (pinsA_at ho))
      clear ho
      cases o with
      | none =>
        have ck : w.cell? ⟨lb, k, none⟩ = some (.pointer none) := CK0.out
        go_wp2_with fail
        go_ret
        exact ⟨by rw [free1_at l 0 k HO.out HJ.out, Nat.zero_add]; rfl, rfl⟩
      | some g =>
        have ck : w.cell? ⟨lb, k, none⟩ = some (.pointer (some ⟨g, 0, none⟩)) := CK0.out
        have hne : ∀ W : World, (binOp .eql 140 (.pointer none) (.pointer (some ⟨g, 0, none⟩))).run Tryz.prog W = .ok (.bool false) W := fun W => by kernel_rfl
        go_wp2_with fail
        go_roundw
        case rel =>
          refine ⟨k + 1, hlt, by go_num, fun j hj => ?_, by first | trivial | rfl⟩
          by_cases hjk : j < k
          · exact HJ.out j hjk
          · obtain rfl : j = k := by omega
            exact ⟨g, HO.out⟩
        case measure => simp [intOf]; omega
    · have d1 : decide ((k : Int) < (n : Int)) = false := decide_eq_false (by omega)
      have d2 : decide (k < n) = false := decide_eq_false hlt
      go_wp2_with fail
      go_ret
      exact ⟨by rw [free1_none l 0 (fun j hj => HJ.out j (by rw [HL.out] at hj; omega))]; rfl, rfl⟩
set_option maxRecDepth 100000 in
set_option maxHeartbeats 1000000 in
theorem held_q (g lb n m : Nat) (r : Rd) (k : Nat) (w : World) (h : Blk w g 111 r.cells) (hs : r.sl = .slice (some ⟨lb, 0, none⟩) n n) (hm : r.cl * (n : Int) = (m : Int)) (hm2 : m ≤ 64) (hk : k < 16) (j : Nat) :
    Calls Tryz.prog 99 #[.pointer (some ⟨g, 0, none⟩), .int .i64 (k : Int)] (w.drewN j) fun e w'' => e = .returned (.int .i64 ((m + k : Nat) : Int)) ∧ ∃ q, w'' = w.drewN q := by
  have a1 : w.cell? ⟨g, 1, none⟩ = some (.int .i64 r.cl) := h.cell 1
  have a2 : w.cell? ⟨g, 2, none⟩ = some (.slice (some ⟨lb, 0, none⟩) n n) := (h.cell 2).trans (by rw [← hs]; rfl)
  have wm : IntKind.i64.wrap (r.cl * (n : Int)) = (m : Int) := by rw [hm]; exact IntWalk.i64_in _ (by omega)
  have wk : IntKind.i64.wrap ((m : Int) + (k : Int)) = ((m + k : Nat) : Int) := by rw [IntWalk.i64_in _ (by omega)]; push_cast; rfl
  clear h hs hm
  go_enter Tryz.func99, Tryz.ntmps99
  go_wp2_with fail
  refine Mix.wp_region_mix (fun _ => True) (fun i => ([0, 0, 0, 0, 0, 0, 0, 0, 0, 0, 0, 0, 0] : List Nat).getD i 0) [0, 1, 2, 3, 4, 5, 6, 7, 8, 9, 10, 11, 12] (by kernel_rfl) (by kernel_rfl) ?_
  repeat (first | (refine Mix.mix_q (by simp only [List.getElem?_toArray, List.getElem?_cons_zero, List.getElem?_cons_succ]; exact rfl) rfl ?_; go_big_quiet_step (fail); refine wpQuiet_nil ?_) | (refine Mix.mix_p (by simp only [List.getElem?_toArray, List.getElem?_cons_zero, List.getElem?_cons_succ]; exact rfl) rfl rfl ?_; go_big_quiet_step (fail); refine wpQuiet_nil ?_) | (refine Mix.mix_s (by simp only [List.getElem?_toArray, List.getElem?_cons_zero, List.getElem?_cons_succ]; exact rfl) rfl rfl ?_; go_big_quiet_step (fail); refine wpQuiet_nil ?_))
  intro q
  go_wp2_with fail
  go_ret
  exact ⟨rfl, _, by rw [World.drewN_drewN]⟩
end Go.Proofs.YtjcdknhejcbpiaaGreat
namespace Go.Proofs.YtjcdknhejcbpiaaGreat
open Go.RowKit
set_option linter.unusedVariables false
set_option linter.unusedSimpArgs false
set_option linter.unusedSectionVars false
/-- A snapshot. -/
structure Snp where
  g : Nat
  x : Rv
  mv : Value
  ms : List Mk
  dv : Value
  ds : List Pc
  ix : Int
  cu : Int
def Snp.cells (s : Snp) : Array Value := #[.int .i64 s.x.num, .int .u64 s.x.at', .int .i64 s.x.h, .int .i64 s.x.b, .int .i64 s.x.r, .int .i64 s.x.l, s.mv, s.dv, .int .i64 s.ix, .int .i64 s.cu]
structure SnpM (B : Nat) (w : World) (s : Snp) : Prop where
  b : Blk w s.g 144 s.cells
  m : w.ownsRow B 160 3 s.mv s.ms.length (mkCells s.ms)
  d : w.ownsRow B 217 3 s.dv s.ds.length (pcCells s.ds)
def Snp.foot (s : Snp) (k : Nat) : Prop := k = s.g ∨ s.mv.ownBlock = some k ∨ s.dv.ownBlock = some k
theorem SnpM.ch {B : Nat} {w w' : World} {s : Snp} {fp : Nat → Prop} (h : SnpM B w s) (c : Ch fp w w') (hn : ∀ k, s.foot k → ¬ fp k) : SnpM B w' s :=
  ⟨c.blk h.b (hn _ (.inl rfl)), c.own h.m (fun k hk => hn k (.inr (.inl hk))), c.own h.d (fun k hk => hn k (.inr (.inr hk)))⟩
theorem SnpM.lt {B : Nat} {w : World} {s : Snp} (h : SnpM B w s) {k : Nat} (hk : s.foot k) : k < w.heap.size := by
  rcases hk with rfl | hk | hk
  · exact h.b.lt
  · exact (h.m.lt k hk).2
  · exact (h.d.lt k hk).2
/-- A block of another type is not a snapshot's. -/
theorem SnpM.off {B : Nat} {w : World} {s : Snp} (h : SnpM B w s) {g : Nat} {t : TypeId} {cs : Array Value} (hb : Blk w g t cs) (h1 : t ≠ 144 := by decide) (h2 : t ≠ 160 := by decide) (h3 : t ≠ 217 := by decide) : ∀ k, s.foot k → ¬ k = g := by
  rintro k (rfl | hk | hk) rfl
  · exact hb.ne h.b h1 rfl
  · exact hb.own h.m h2 hk
  · exact hb.own h.d h3 hk
def sptr (o : Option Snp) : Option Nat := o.map Snp.g
/-- The slots of a reader. -/
structure SlotsM (B lb : Nat) (sl : List (Option Snp)) (w : World) : Prop where
  b : Blk w lb 140 (pinsA (sl.map sptr))
  s : ∀ (k : Nat) (s : Snp), sl[k]? = some (some s) → SnpM B w s
  ne : ∀ (j k : Nat) (s t : Snp), sl[j]? = some (some s) → sl[k]? = some (some t) → j ≠ k → s.g ≠ t.g
def slotsR (B lb : Nat) (sl : List (Option Snp)) : Res where
  holds w := SlotsM B lb sl w
  foot k := k = lb ∨ ∃ j s, sl[j]? = some (some s) ∧ s.foot k
  stable h c hn := ⟨c.blk h.b (hn _ (.inl rfl)), fun k s hk => (h.s k s hk).ch c (fun i hi => hn i (.inr ⟨k, s, hk, hi⟩)), h.ne⟩
  lt h k hk := by
    rcases hk with rfl | ⟨j, s, hj, hk⟩
    · exact h.b.lt
    · exact (h.s j s hj).lt hk
theorem sset {α : Type} {l : List (Option α)} {k j : Nat} {o : Option α} {s : α} (h : (l.set k o)[j]? = some (some s)) : (j = k ∧ o = some s) ∨ (j ≠ k ∧ l[j]? = some (some s)) := by
  rw [List.getElem?_set] at h
  by_cases hj : k = j
  · subst hj
    rw [if_pos rfl] at h
    split at h
    · injection h with h
      exact .inl ⟨rfl, h⟩
    · cases h
  · rw [if_neg hj] at h
    exact .inr ⟨Ne.symm hj, h⟩
section
variable {B lb : Nat} {sl : List (Option Snp)} {w w' : World}
theorem slots_add {k : Nat} {s : Snp} (h : SlotsM B lb sl w) (hs : SnpM B w s) (hk : sl[k]? = some none) (hn : ∀ (j : Nat) (t : Snp), sl[j]? = some (some t) → t.g ≠ s.g) :
    SlotsM B lb (sl.set k (some s)) (w.setCell ⟨lb, k, none⟩ (.pointer (some ⟨s.g, 0, none⟩))) := by
  have c : Ch (fun b => b = lb) w (w.setCell ⟨lb, k, none⟩ (.pointer (some ⟨s.g, 0, none⟩))) := (Ch.refl (fun b => b = lb) w).set (fun _ => rfl) _
  refine ⟨?_, fun j t hj => ?_, fun j i t u hj hi hne => ?_⟩
  · have t := h.b.put k (.pointer (some ⟨s.g, 0, none⟩))
    rw [List.map_set, show sptr (some s) = some s.g from rfl]
    rw [← pinsA_set]
    exact t
  · rcases sset hj with ⟨rfl, e⟩ | ⟨_, hj⟩
    · injection e with e
      subst e
      exact hs.ch c (hs.off h.b)
    · exact (h.s j t hj).ch c ((h.s j t hj).off h.b)
  · rcases sset hj with ⟨e0, e⟩ | ⟨hjk, hj'⟩ <;> rcases sset hi with ⟨e1, e2⟩ | ⟨hik, hi'⟩
    · exact absurd (e0.trans e1.symm) hne
    · injection e with e
      subst e
      exact (hn i u hi').symm
    · injection e2 with e2
      subst e2
      exact hn j t hj'
    · exact h.ne j i t u hj' hi' hne
theorem slots_del {k : Nat} (h : SlotsM B lb sl w) : SlotsM B lb (sl.set k none) (w.setCell ⟨lb, k, none⟩ (.pointer none)) := by
  have c : Ch (fun b => b = lb) w (w.setCell ⟨lb, k, none⟩ (.pointer none)) := (Ch.refl (fun b => b = lb) w).set (fun _ => rfl) _
  refine ⟨?_, fun j t hj => ?_, fun j i t u hj hi hne => ?_⟩
  · have t := h.b.put k (.pointer none)
    rw [List.map_set, show sptr none = none from rfl]
    rw [← pinsA_set]
    exact t
  · rcases sset hj with ⟨rfl, e⟩ | ⟨_, hj⟩
    · cases e
    · exact (h.s j t hj).ch c ((h.s j t hj).off h.b)
  · rcases sset hj with ⟨e0, e⟩ | ⟨hjk, hj'⟩ <;> rcases sset hi with ⟨e1, e2⟩ | ⟨hik, hi'⟩
    · exact absurd (e0.trans e1.symm) hne
    · cases e
    · cases e2
    · exact h.ne j i t u hj' hi' hne
theorem slots_cur {k : Nat} {s : Snp} (c : Int) (h : SlotsM B lb sl w) (hk : sl[k]? = some (some s)) : SlotsM B lb (sl.set k (some { s with cu := c })) (w.setCell ⟨s.g, 9, none⟩ (.int .i64 c)) := by
  have hM := h.s k s hk
  have cc : Ch (fun b => b = s.g) w (w.setCell ⟨s.g, 9, none⟩ (.int .i64 c)) := (Ch.refl (fun b => b = s.g) w).set (fun _ => rfl) _
  refine ⟨?_, fun j t hj => ?_, fun j i t u hj hi hne => ?_⟩
  · have e : (sl.set k (some { s with cu := c })).map sptr = sl.map sptr := by
      rw [List.map_set]
      apply List.ext_getElem?
      intro i
      rw [List.getElem?_set]
      split
      · rename_i e
        subst e
        rw [List.length_map]
        have hl := (List.getElem?_eq_some_iff.1 hk).1
        rw [if_pos hl, List.getElem?_map, hk]
        rfl
      · rfl
    rw [e]
    exact cc.blk h.b (fun e => hM.b.ne h.b (by decide) e.symm)
  · rcases sset hj with ⟨rfl, e⟩ | ⟨hjk, hj⟩
    · injection e with e
      subst e
      exact ⟨hM.b.put 9 _, cc.own hM.m (fun i hi e => hM.b.own hM.m (by decide) (e ▸ hi)), cc.own hM.d (fun i hi e => hM.b.own hM.d (by decide) (e ▸ hi))⟩
    · have hT := h.s j t hj
      refine hT.ch cc fun i hi e => ?_
      rcases hi with rfl | hi | hi
      · exact h.ne j k t s hj hk hjk e
      · exact hM.b.own hT.m (by decide) (e ▸ hi)
      · exact hM.b.own hT.d (by decide) (e ▸ hi)
  · have hg : ∀ {j : Nat} {t : Snp}, (sl.set k (some { s with cu := c }))[j]? = some (some t) → ∃ t' : Snp, sl[j]? = some (some t') ∧ t'.g = t.g := fun {j t} hj => by
      rcases sset hj with ⟨rfl, e⟩ | ⟨_, hj⟩
      · injection e with e
        subst e
        exact ⟨s, hk, rfl⟩
      · exact ⟨t, hj, rfl⟩
    obtain ⟨t', ht, e1⟩ := hg hj
    obtain ⟨u', hu, e2⟩ := hg hi
    rw [← e1, ← e2]
    exact h.ne j i t' u' ht hu hne
end
/-- The pins of an epoch. -/
structure PinsM (eb pb : Nat) (ps : List (Option (Nat × Pn))) (w : World) : Prop where
  b : Blk w pb 109 (pinsA (ps.map (Option.map Prod.fst)))
  s : ∀ (k : Nat) (x : Nat × Pn), ps[k]? = some (some x) → Blk w x.1 256 (pnCells eb x.1 x.2)
  ne : ∀ (j k : Nat) (x y : Nat × Pn), ps[j]? = some (some x) → ps[k]? = some (some y) → j ≠ k → x.1 ≠ y.1
def pinsR (eb pb : Nat) (ps : List (Option (Nat × Pn))) : Res where
  holds w := PinsM eb pb ps w
  foot k := k = pb ∨ ∃ j x, ps[j]? = some (some x) ∧ k = x.1
  stable h c hn := ⟨c.blk h.b (hn _ (.inl rfl)), fun k x hk => c.blk (h.s k x hk) (hn _ (.inr ⟨k, x, hk, rfl⟩)), h.ne⟩
  lt h k hk := by
    rcases hk with rfl | ⟨j, x, hj, rfl⟩
    · exact h.b.lt
    · exact (h.s j x hj).lt
section
variable {eb pb : Nat} {ps : List (Option (Nat × Pn))} {w w' : World}
/-- A pin's block, or the row of pins, is another. -/
theorem pins_set {fp : Nat → Prop} (h : PinsM eb pb ps w) {k : Nat} {o : Option (Nat × Pn)} (c : Ch fp w w') (hb : Blk w' pb 109 (pinsA ((ps.map (Option.map Prod.fst)).set k (o.map Prod.fst)))) (ho : ∀ x, o = some x → Blk w' x.1 256 (pnCells eb x.1 x.2) ∧ ∀ (j : Nat) (y : Nat × Pn), j ≠ k → ps[j]? = some (some y) → y.1 ≠ x.1)
    (hn : ∀ (j : Nat) (y : Nat × Pn), j ≠ k → ps[j]? = some (some y) → ¬ fp y.1) : PinsM eb pb (ps.set k o) w' := by
  refine ⟨by rw [List.map_set]; exact hb, fun j x hj => ?_, fun j i x y hj hi hne => ?_⟩
  · rcases sset hj with ⟨rfl, e⟩ | ⟨hjk, hj⟩
    · exact (ho x e).1
    · exact c.blk (h.s j x hj) (hn j x hjk hj)
  · rcases sset hj with ⟨e0, e⟩ | ⟨hjk, hj'⟩ <;> rcases sset hi with ⟨e1, e2⟩ | ⟨hik, hi'⟩
    · exact absurd (e0.trans e1.symm) hne
    · exact fun e3 => (ho x e).2 i y hik hi' e3.symm
    · exact (ho y e2).2 j x hjk hj'
    · exact h.ne j i x y hj' hi' hne
end
/-- A revision. -/
structure RvS where
  x : Rv
  mv : Value
  ms : List Mk
  dv : Value
  ds : List Pc
def RvS.cells (r : RvS) : List Value := rvCells r.x r.mv r.dv
/-- The revisions of a store. -/
structure RevsM (B : Nat) (rv : Value) (rs : List RvS) (w : World) : Prop where
  b : w.ownsRow B 104 8 rv rs.length (rs.flatMap RvS.cells)
  s : ∀ r ∈ rs, w.ownsRow B 160 3 r.mv r.ms.length (mkCells r.ms) ∧ w.ownsRow B 217 3 r.dv r.ds.length (pcCells r.ds)
def revsR (B : Nat) (rv : Value) (rs : List RvS) : Res where
  holds w := RevsM B rv rs w
  foot k := rv.ownBlock = some k ∨ ∃ r ∈ rs, r.mv.ownBlock = some k ∨ r.dv.ownBlock = some k
  stable h c hn := ⟨c.own h.b (fun k hk => hn k (.inl hk)), fun r hr => ⟨c.own (h.s r hr).1 (fun k hk => hn k (.inr ⟨r, hr, .inl hk⟩)), c.own (h.s r hr).2 (fun k hk => hn k (.inr ⟨r, hr, .inr hk⟩))⟩⟩
  lt h k hk := by
    rcases hk with hk | ⟨r, hr, hk | hk⟩
    · exact (h.b.lt k hk).2
    · exact ((h.s r hr).1.lt k hk).2
    · exact ((h.s r hr).2.lt k hk).2
end Go.Proofs.YtjcdknhejcbpiaaGreat
namespace Go.Proofs.YtjcdknhejcbpiaaGreat
open Go.RowKit
set_option linter.unusedVariables false
set_option linter.unusedSimpArgs false
set_option linter.unusedSectionVars false
/-- A reader and what it reads of its store. -/
structure RS where
  g : Nat
  r : Rd
  lb : Nat
  sl : List (Option Snp)
  cs : Array Value
  p : Nat
  cb : Nat
  lv : Value
  s : BS
  eb : Nat
  f : Ed
  sc : Value
  pb : Nat
  ps : List (Option (Nat × Pn))
  rv : Value
  rs : List RvS
  A : ArA
  ns : List An
  st : Int
  tx : List UInt8
def RS.pv (σ : RS) : Value := .slice (some ⟨σ.pb, 0, none⟩) σ.f.n σ.f.n
def txCells (l : List UInt8) : List Value := l.map fun b => .int .u8 (b.toNat : Int)
def RS.L (B : Nat) (σ : RS) : List Res := [blkR σ.g 111 σ.r.cells, slotsR B σ.lb σ.sl, blkR σ.r.sb 125 σ.cs, bankR B σ.p σ.cb σ.lv σ.s.vs σ.s.lg, blkR σ.eb 200 (edCells σ.p σ.f σ.pv σ.sc), pinsR σ.eb σ.pb σ.ps, revsR B σ.rv σ.rs, arR σ.A σ.ns σ.st, rowR B 5 1 σ.tx.length σ.r.tx (txCells σ.tx)]
/-- What is known of it. -/
structure RS.Ok (σ : RS) (y : Ly) (n m : Nat) : Prop where
  sl : σ.r.sl = .slice (some ⟨σ.lb, 0, none⟩) n n
  nl : σ.sl.length = n
  n8 : n ≤ 8
  cl : 0 ≤ σ.r.cl ∧ σ.r.cl < 16
  hm : σ.r.cl * (n : Int) = (m : Int)
  mn : m + n ≤ σ.f.n
  pl : σ.ps.length = σ.f.n
  stf : StF σ.cs σ.p σ.A.ab σ.eb y
  h23 : σ.cs[23]? = some σ.rv
  ed : EdOk σ.s σ.f
  y0 : y.l0 = 0
  y1 : y.l1 = 1
  vs : 3 ≤ σ.s.vs.length ∧ σ.s.vs.length ≤ 4096
  lg : σ.s.lg.length < 900000
  f0 : σ.f.ep ≠ 0 ∧ σ.f.ep ≠ 1
  fs : ∀ i, i < σ.f.n → 2 < σ.f.slot i
section
variable {B : Nat} {w0 w : World} {R : List Res} {σ : RS} (M : Mem B w0 (σ.L B ++ R) w)
include M
theorem m_rd : Blk w σ.g 111 σ.r.cells := M.each 0 _ rfl
theorem m_sl : SlotsM B σ.lb σ.sl w := M.each 1 _ rfl
theorem m_st : Blk w σ.r.sb 125 σ.cs := M.each 2 _ rfl
theorem m_bk : Bank B w σ.p σ.cb σ.lv σ.s.vs σ.s.lg := M.each 3 _ rfl
theorem m_ed : Blk w σ.eb 200 (edCells σ.p σ.f σ.pv σ.sc) := M.each 4 _ rfl
theorem m_pn : PinsM σ.eb σ.pb σ.ps w := M.each 5 _ rfl
theorem m_rv : RevsM B σ.rv σ.rs w := M.each 6 _ rfl
theorem m_ar : ArM σ.A w σ.ns σ.st := M.each 7 _ rfl
theorem m_tx : w.ownsRow B 5 1 σ.r.tx σ.tx.length (txCells σ.tx) := M.each 8 _ rfl
theorem m_ep (ed : EdOk σ.s σ.f) : EpochM B w σ.p σ.cb σ.eb σ.lv σ.s σ.f σ.pv σ.sc := ⟨m_bk M, m_ed M, ed, M.low 4 _ rfl _ rfl⟩
/-- The reader's block alone changes. -/
theorem m_set {w' : World} {r' : Rd} {v : Value} {e : Ending} (h : RdSet σ.g r' w v e w') (hs : r'.sb = σ.r.sb) (ht : r'.tx = σ.r.tx) : Mem B w0 (RS.L B { σ with r := r' } ++ R) w' := by
  have t := M.upd (i := 0) (blkR σ.g 111 r'.cells) rfl h.2.2 (fun _ _ e => e) h.2.1 (fun _ e => .inl e)
  have e : RS.L B { σ with r := r' } ++ R = (σ.L B ++ R).set 0 (blkR σ.g 111 r'.cells) := by
    simp only [RS.L, hs, ht]; rfl
  rw [e]
  exact t
end
end Go.Proofs.YtjcdknhejcbpiaaGreat
