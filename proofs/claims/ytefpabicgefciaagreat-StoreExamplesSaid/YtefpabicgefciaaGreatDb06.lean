/- Texts XJoinB, XMixT, XMixJ, XCellA, XCellB, XCellC, XFrame, XCellD, XCellE for XChE, by trim.py. -/
import Derived.Test.YtefpabicgefciaaGreatDb05
import Derived.Test.YtefpabicgefciaaGreatDb01
import Derived.Test.YtefpabicgefciaaGreatRows
import Derived.BigGuardPart
import Derived.ProofKit
import Derived.OpenShut
import Derived.ShutString
import Derived.ChangeOld
import Derived.Below
import Derived.Deep.Slices
import Derived.Deep.Fields
import Derived.ChangeSame
import Derived.Laws.CopyOwn
namespace Go.Proofs.YtefpabicgefciaaGreat
open Go.RowKit
set_option linter.unusedVariables false
set_option linter.unusedSimpArgs false
set_option linter.unusedSectionVars false
/-- A slice of slices of pieces. -/
def InPcs (w : World) (ab ao m : Nat) (L : List (List Pc)) : Prop := m = L.length ∧ ∀ k, k < m → ∃ v, w.cell? ⟨ab, ao + k, none⟩ = some v ∧ PcAt w v (L.getD k [])
theorem InPcs.keep {w w' : World} {ab ao m : Nat} {L : List (List Pc)} (h : InPcs w ab ao m L) (c : Ch (fun _ => False) w w') : InPcs w' ab ao m L :=
  ⟨h.1, fun k hk => by
    obtain ⟨v, h1, h2⟩ := h.2 k hk
    exact ⟨v, (c.cell (p := ⟨ab, ao + k, none⟩) (World.block_lt_of_cell? w _ h1) id).trans h1, h2.keep c⟩⟩
set_option maxRecDepth 100000 in
set_option maxHeartbeats 1000000 in
theorem join_any (ab ao m mc : Nat) (L : List (List Pc)) (w : World) (h : InPcs w ab ao m L) (hz : ∀ k, k < m → Dl.chkL (L.getD k []) = 0) (h1 : Dl.OkL L.flatten) (h2 : Dl.inl L.flatten ≤ 2000000) (h3 : Dl.oul L.flatten ≤ 2000000) (h4 : L.flatten.length < 3000000) (hm1 : m < 2500000) :
    Calls Tryz.prog 136 #[.slice (some ⟨ab, ao, none⟩) m mc] w fun e w' => ∃ v, e = .returned (.tuple #[v, .int .i64 (if Dl.chkL (Dl.form L.flatten) = 0 then 0 else 5)]) ∧ MadeP w.heap.size w' v (if Dl.chkL (Dl.form L.flatten) = 0 then Dl.form L.flatten else []) ∧ Ch (fun _ => False) w w' := by
  have hm := h.1
  have H := hid h
  have HZ := hid hz
  have H1 := hid h1
  have H2 := hid h2
  have H3 := hid h3
  have H4 := hid h4
  have HM := hid hm
  clear h hz h1 h2 h3 h4 hm
  go_enter Tryz.func136, Tryz.ntmps136
  go_wp2_with fail
  go_loopw [10] (fun i W => ∃ k : Nat, k ≤ m ∧ i = .int .i64 (k : Int) ∧ Ch (fun _ => False) w W) (fun i _ => m - (intOf i).toNat)
  case atStart => exact ⟨0, Nat.zero_le _, rfl, Ch.refl _ _⟩
  case round =>
    obtain ⟨k, hk, rfl, hC⟩ := hrel
    by_cases hlt : k < m
    · have d1 : decide ((k : Int) < (m : Int)) = true := decide_eq_true (by omega)
      have d2 : decide (k < m) = true := decide_eq_true hlt
      obtain ⟨v, c1, hat⟩ := (H.out.keep hC).2 k hlt
      have hz := HZ.out k hlt
      have hcl := Dl.chkL_zero.1 hz
      have hat0 := hat
      obtain ⟨A, cp, hv, hcp, _⟩ := hat0
      subst hv
      have HAT := hid hat
      obtain ⟨x, hx⟩ : ∃ x, x = (L.getD k []).length := ⟨_, rfl⟩
      have hx2 : x < 5000000 := by rw [hx]; omega
      rw [← hx] at c1 HAT
      have HC := hid hC
      clear hC hcl hx hat
      go_wp2_with fail
      refine (dcheck_any A x cp (L.getD k []) wr HAT.out.in hx2).mono ?_
      rintro e w1 ⟨rfl, hc⟩
      rw [hz]
      have HC1 := hid (HC.out.trans hc (fun _ _ h => h))
      clear hc hz
      go_wp2_with fail
      go_roundw
      case rel => exact ⟨k + 1, hlt, by go_num, HC1.out⟩
      case measure => simp [intOf]; omega
    · obtain rfl : k = m := by omega
      have d1 : decide ((k : Int) < (k : Int)) = false := decide_eq_false (by omega)
      have HC := hid hC
      clear hC
      go_wp2_with fail
      obtain ⟨V, hV⟩ : ∃ V : Nat → Value, ∀ j, j < k → wr.cell? ⟨ab, ao + j, none⟩ = some (V j) ∧ PcAt wr (V j) (L.getD j []) := by
        have h := (H.out.keep HC.out).2
        refine ⟨fun j => if hj : j < k then (h j hj).choose else .int .i64 0, fun j hj => ?_⟩
        simp only [dif_pos hj]
        exact (h j hj).choose_spec
      have HV := hid hV
      clear hV
      refine (concat_pc ab ao k mc L V wr HM.out HV.out H4.out hm1).mono ?_
      rintro e w1 ⟨v1, rfl, hown1, hc1⟩
      obtain ⟨A1, cp1, hv1, hle1, _, hin1⟩ := own_pc hown1
      subst hv1
      have HC1 := hid (HC.out.trans hc1 (fun _ _ h => h))
      have HI1 := hid hin1
      obtain ⟨x, hx⟩ : ∃ x, x = L.flatten.length := ⟨_, rfl⟩
      have hx2 : x ≤ 5000000 := by have := H4.out; omega
      rw [← hx] at HI1 ⊢
      clear hown1 hc1 hin1 hx hle1
      go_wp2_with fail
      refine (form_any A1 x cp1 L.flatten w1 HI1.out H1.out H2.out H3.out hx2).mono ?_
      rintro e w2 ⟨v2, rfl, hown2, hc2⟩
      obtain ⟨A2, cp2, hv2, hle2, _, hin2⟩ := own_pc hown2
      subst hv2
      have HC2 := hid (HC1.out.trans hc2 (fun _ _ h => h))
      have HO2 := hid (own_mono hown2 HC1.out.size)
      have HI2 := hid hin2
      obtain ⟨y, hy⟩ : ∃ y, y = (Dl.form L.flatten).length := ⟨_, rfl⟩
      have hy2 : y < 5000000 := by
        have t := Dl.len_le (Dl.form_ok H1.out).1
        have t1 := (Dl.form_ok H1.out).2.1
        have t2 := Dl.oul_atoms (Dl.form_ok H1.out).1 (Dl.form_ok H1.out).2.2
        have t3 := Dl.atoms_len 0 H1.out
        have := H2.out
        have := H3.out
        omega
      rw [← hy] at HI2 HO2 ⊢
      have HY := hid hy
      clear hown2 hc2 hin2 hy hle2
      go_wp2_with fail
      refine (dcheck_any A2 y cp2 (Dl.form L.flatten) w2 HI2.out hy2).mono ?_
      rintro e w3 ⟨rfl, hc3⟩
      have HC3 := hid (HC2.out.trans hc3 (fun _ _ h => h))
      have HO3 := hid (hc3.own HO2.out (fun _ _ => id))
      clear hc3
      by_cases hz : Dl.chkL (Dl.form L.flatten) = 0
      · rw [hz]
        have HZ2 := hid hz
        clear hz
        go_wp2_with fail
        go_ret2
        simp only [if_pos HZ2.out]
        exact ⟨_, rfl, by unfold MadeP; rw [← HY.out]; exact HO3.out, HC3.out⟩
      · have bz : (Dl.chkL (Dl.form L.flatten) != 0) = true := bne_iff_ne.2 hz
        have HZ2 := hid hz
        obtain ⟨z, hzz⟩ : ∃ z, z = Dl.chkL (Dl.form L.flatten) := ⟨_, rfl⟩
        rw [← hzz] at bz ⊢
        clear hz hzz
        go_wp2_with fail
        go_ret2
        simp only [if_neg HZ2.out]
        exact ⟨_, rfl, World.ownsRow_nil _ _ _ _, HC3.out⟩
end Go.Proofs.YtefpabicgefciaaGreat
namespace Go.Proofs.YtefpabicgefciaaGreat.Mix
open Go
set_option linter.unusedSimpArgs false
section
variable {P : Program} {ops : Array Oper} {S : Nat → Prop} {kd : Nat → Nat}
/-- Each of these may be taken first, one behind another. -/
def lexP (ops : Array Oper) (kd : Nat → Nat) : List Nat → Array Bool → Bool
  | [], _ => true
  | i :: rest, listed => (Region.ready .any ops listed).contains i && freeX ops kd listed i && lexP ops kd rest (listed.setIfInBounds i true)
def marks (ord : List Nat) (listed : Array Bool) : Array Bool := ord.foldl (fun l i => l.setIfInBounds i true) listed
theorem blk_size (listed : Array Bool) (i : Nat) : (blkA ops listed i).size = ops.size := by
  unfold blkA
  have : ∀ (l : List Nat) (b : Array Bool), b.size = ops.size → (l.foldl (fun b j => if !listed.getD j true && ((ops[j]?).map (·.after.any fun e => Region.binds .any e && (e.on == i || b.getD e.on false))).getD false then b.setIfInBounds j true else b) b).size = ops.size := by
    intro l
    induction l with
    | nil => intro b hb; exact hb
    | cons x l ih => intro b hb; simp only [List.foldl_cons]; exact ih _ (by split <;> simpa using hb)
  exact this _ _ (by simp)
/-- One operation that may be taken first. -/
theorem wpX_step {Q : Act → World → Prop} (hs : Region.noSelect ops = true) {i : Nat} {listed : Array Bool} {a : Act} {w : World} {fuel : Nat} (hr : (Region.ready .any ops listed).contains i = true) (hf : freeX ops kd listed i = true)
    (H : opX P ops S kd i (wpX P ops S kd Q fuel (listed.setIfInBounds i true)) a w) : wpX P ops S kd Q (fuel + 1) listed a w := by
  have hr' : i ∈ Region.ready .any ops listed := by simpa using hr
  obtain ⟨_, oi, hoi, _⟩ := mem_ready.1 hr'
  simp only [freeX, hoi, List.all_eq_true, List.mem_range] at hf
  refine wpX_first hoi (Region.noSelect_spec hs) (fun j => (blkA ops listed i).getD j false = true ∧ j < ops.size) (fun j oj hj hoj => ?_) fuel listed a w (fun j hj => ?_) (fun j oj hoj hji hun hb => ?_) hr' H
  · have h1 := hf j hj.2
    simp only [hoj, hj.1, Bool.not_true, Bool.false_or, Bool.and_eq_true] at h1
    obtain ⟨e, he, hb⟩ := Array.any_eq_true'.1 h1.1.2
    simp only [Bool.and_eq_true, Bool.or_eq_true, beq_iff_eq] at hb
    refine ⟨e, he, hb.1, hb.2.imp id fun h => ⟨h, ?_⟩⟩
    rcases Nat.lt_or_ge e.on ops.size with h' | h'
    · exact h'
    · have hsz := blk_size (ops := ops) listed i
      rw [Array.getD_eq_getD_getElem?, Array.getElem?_eq_none (by omega)] at h
      cases h
  · obtain ⟨o, ho⟩ : ∃ o, ops[j]? = some o := ⟨_, Array.getElem?_eq_getElem hj.2⟩
    have h1 := hf j hj.2
    simp only [ho, hj.1, Bool.not_true, Bool.false_or, Bool.and_eq_true] at h1
    simpa using h1.1.1
  · have hlt : j < ops.size := (Array.getElem?_eq_some_iff.1 hoj).1
    have h1 := hf j hlt
    have hb' : (blkA ops listed i).getD j false = false := by
      cases hx : (blkA ops listed i).getD j false
      · rfl
      · exact absurd ⟨hx, hlt⟩ hb
    simp only [hoj, hb', Bool.not_false, Bool.true_or, Bool.true_and, Bool.or_eq_true, beq_iff_eq, hji, false_or, hun, Bool.false_eq_true, Bool.and_eq_true] at h1
    exact h1
/-- Some operations, one behind another, that may each be taken first. -/
theorem wpX_prefix {Q : Act → World → Prop} {fuel : Nat} (hs : Region.noSelect ops = true) : ∀ (ord : List Nat) (listed : Array Bool) (a : Act) (w : World), lexP ops kd ord listed = true →
    wpMix P ops S kd (fun a w => wpX P ops S kd Q fuel (marks ord listed) a w) ord a w → wpX P ops S kd Q (ord.length + fuel) listed a w
  | [], _, _, _, _, h => by rw [List.length_nil, Nat.zero_add]; exact h 0
  | i :: rest, listed, a, w, hB, h => by
    simp only [lexP, Bool.and_eq_true] at hB
    rw [List.length_cons, show rest.length + 1 + fuel = rest.length + fuel + 1 by omega]
    exact wpX_step hs hB.1.1 hB.1.2 (opX_mono (fun a' w' hK => wpX_prefix hs rest (listed.setIfInBounds i true) a' w' hB.2 hK) h)
/-- Two operations are ready, and no other: both ways. -/
theorem wpX_two {Q : Act → World → Prop} {fuel : Nat} {listed : Array Bool} {a : Act} {w : World} (i j : Nat) (hB : (Region.ready .any ops listed == [i, j]) = true)
    (h1 : wpMix P ops S kd (fun a w => wpX P ops S kd Q fuel (listed.setIfInBounds i true) a w) [i] a w) (h2 : wpMix P ops S kd (fun a w => wpX P ops S kd Q fuel (listed.setIfInBounds j true) a w) [j] a w) : wpX P ops S kd Q (fuel + 1) listed a w := by
  have hr : Region.ready .any ops listed = [i, j] := by simpa using hB
  refine ⟨(fun h => by rw [hr] at h; cases h), fun k hk => ?_⟩
  rw [hr] at hk
  simp at hk
  rcases hk with rfl | rfl
  · exact opX_mono (fun a' w' hK => hK 0) h1
  · exact opX_mono (fun a' w' hK => hK 0) h2
theorem wpX_done {Q : Act → World → Prop} {listed : Array Bool} {a : Act} {w : World} (hB : (Region.ready .any ops listed).isEmpty = true) (h : ∀ n, Q a (w.drewN n)) : wpX P ops S kd Q 0 listed a w := ⟨by simpa using hB, h⟩
theorem wpX_world {Q : Act → World → Prop} {fuel : Nat} {listed : Array Bool} {a : Act} {w : World} (h : ∀ W, W = w → wpX P ops S kd Q fuel listed a W) : wpX P ops S kd Q fuel listed a w := h w rfl
/-- The region, by all its ways. -/
theorem wp_region_X {id : Nat} {Q : Exit → Act → World → Prop} {a : Act} {w : World} {l : List Oper} (S : Nat → Prop) (kd : Nat → Nat) (hm : P.follows .mixedOrders = true)
    (h : wpX P l.toArray S kd (Q .normal) l.toArray.size (Array.replicate l.toArray.size false) a w) : (Code.region id l.toArray true).wp P Q a w := by
  refine wp_region_any hm ?_
  exact wpAny_of_X (Q := Q) _ _ _ _ h 1
end
end Go.Proofs.YtefpabicgefciaaGreat.Mix
namespace Go.Proofs.YtefpabicgefciaaGreat.Mix
open Go
set_option linter.unusedSimpArgs false
set_option linter.unusedVariables false
section
variable {P : Program} {ops : Array Oper} {S : Nat → Prop} {kd : Nat → Nat}
theorem wpX_mono {Q Q' : Act → World → Prop} (hQ : ∀ a w, Q a w → Q' a w) : ∀ (fuel : Nat) (listed : Array Bool) (a : Act) (w : World), wpX P ops S kd Q fuel listed a w → wpX P ops S kd Q' fuel listed a w
  | 0, _, _, _, h => ⟨h.1, fun n => hQ _ _ (h.2 n)⟩
  | fuel + 1, listed, a, w, h => ⟨fun e n => hQ _ _ (h.1 e n), fun i hi => opX_mono (fun a' w' hK => wpX_mono hQ fuel _ a' w' hK) (h.2 i hi)⟩
/-- Three operations are ready, and no other: each way. -/
theorem wpX_three {Q : Act → World → Prop} {fuel : Nat} {listed : Array Bool} {a : Act} {w : World} (i j k : Nat) (hB : (Region.ready .any ops listed == [i, j, k]) = true)
    (h1 : wpMix P ops S kd (fun a w => wpX P ops S kd Q fuel (listed.setIfInBounds i true) a w) [i] a w) (h2 : wpMix P ops S kd (fun a w => wpX P ops S kd Q fuel (listed.setIfInBounds j true) a w) [j] a w)
    (h3 : wpMix P ops S kd (fun a w => wpX P ops S kd Q fuel (listed.setIfInBounds k true) a w) [k] a w) : wpX P ops S kd Q (fuel + 1) listed a w := by
  have hr : Region.ready .any ops listed = [i, j, k] := by simpa using hB
  refine ⟨(fun h => by rw [hr] at h; cases h), fun m hm => ?_⟩
  rw [hr] at hm
  simp at hm
  rcases hm with rfl | rfl | rfl
  · exact opX_mono (fun a' w' hK => hK 0) h1
  · exact opX_mono (fun a' w' hK => hK 0) h2
  · exact opX_mono (fun a' w' hK => hK 0) h3
/-- The region, by all its ways, that meet in J. -/
theorem wp_region_XJ {id : Nat} {Q : Exit → Act → World → Prop} {a : Act} {w : World} {l : List Oper} (S : Nat → Prop) (kd : Nat → Nat) (J : Act → Act → World → Prop) (hm : P.follows .mixedOrders = true)
    (h1 : wpX P l.toArray S kd (J a) l.toArray.size (Array.replicate l.toArray.size false) a w) (h2 : ∀ a' w', J a a' w' → Q .normal a' w') : (Code.region id l.toArray true).wp P Q a w :=
  wp_region_X S kd hm (wpX_mono h2 _ _ _ _ h1)
end
end Go.Proofs.YtefpabicgefciaaGreat.Mix
namespace Go.Proofs.YtefpabicgefciaaGreat
open Go.RowKit
set_option linter.unusedSimpArgs false
/-- An access. -/
structure Acc where
  t : Int
  c : Int
  k : Int
  o : Int
  n : Int
  s : Bool
def Acc.cells (x : Acc) : List Value := [.int .i64 x.t, .int .i64 x.c, .int .u8 x.k, .int .u64 x.o, .int .u64 x.n, .bool x.s]
def logCells (l : List Acc) : List Value := l.flatMap Acc.cells
def u64s (l : List Int) : Array Value := (l.map (Value.int .u64)).toArray
theorem u64s_getD (l : List Int) (i : Nat) (h : i < l.length) : (u64s l)[i]? = some (.int .u64 (lk l i)) := by simp [u64s, lk, h]
theorem u64s_set (l : List Int) (i : Nat) (v : Int) : (u64s l).setIfInBounds i (.int .u64 v) = u64s (l.set i v) := by
  simp [u64s, List.map_set]
theorem logCells_snoc (l : List Acc) (x : Acc) : logCells (l ++ [x]) = logCells l ++ x.cells := by simp [logCells]
/-- The bank at block p: its values, its log. -/
structure Bank (B : Nat) (w : World) (p cb : Nat) (lv : Value) (vs : List Int) (lg : List Acc) : Prop where
  hp : Blk w p 166 #[.slice (some ⟨cb, 0, none⟩) vs.length vs.length, lv]
  hc : Blk w cb 171 (u64s vs)
  hl : w.ownsRow B 365 6 lv lg.length (logCells lg)
  hv : ∀ x ∈ vs, 0 ≤ x ∧ x < 18446744073709551616
  hn : vs.length ≤ 4096
  bp : B ≤ p
  bc : B ≤ cb
theorem Tryz.infoAcc : (Tryz.prog.info? 365).map (fun i => (i.zero, i.size, i.bytes)) = some (some (.agg #[.int .i64 0, .int .i64 0, .int .u8 0, .int .u64 0, .int .u64 0, .bool false]), 6, 48) := by kernel_rfl
theorem Bank.ch {B : Nat} {w w' : World} {p cb : Nat} {lv : Value} {vs : List Int} {lg : List Acc} {fp : Nat → Prop} (h : Bank B w p cb lv vs lg) (c : Ch fp w w')
    (h1 : ¬ fp p) (h2 : ¬ fp cb) (h3 : ∀ k, lv.ownBlock = some k → ¬ fp k) : Bank B w' p cb lv vs lg :=
  ⟨c.blk h.hp h1, c.blk h.hc h2, c.own h.hl h3, h.hv, h.hn, h.bp, h.bc⟩
/-- The error of an access. -/
def chk (n : Nat) (t c : Int) : Int := if t < 0 ∨ 16 ≤ t then 2 else if c < 0 ∨ (n : Int) ≤ c then 3 else 0
set_option linter.unusedVariables false
theorem aload_run (w : World) (a : Addr) (x : Int) (h : w.cell? a = some (.int .u64 x)) : Sem.run Tryz.prog (callFunc 123 #[.pointer (some a)]) w = .ok (.value (.int .u64 x)) w :=
  run_call_load Tryz.func123 (by kernel_rfl) (by kernel_rfl) (by kernel_rfl) .u64 (by kernel_rfl) h
set_option maxHeartbeats 400000 in
theorem aload (w : World) (b o : Nat) (x : Int) (h : w.cell? ⟨b, o, none⟩ = some (.int .u64 x)) :
    Calls Tryz.prog 75 #[.pointer (some ⟨b, o, none⟩)] w fun e w' => e = .returned (.int .u64 x) ∧ w = w' := by
  have hr := aload_run w ⟨b, o, none⟩ x h
  go_enter Tryz.func75, Tryz.ntmps75
  go_wp2
  go_ret
  exact ⟨rfl, rfl⟩
end Go.Proofs.YtefpabicgefciaaGreat
namespace Go.Proofs.YtefpabicgefciaaGreat
open Go.RowKit
set_option linter.unusedSimpArgs false
set_option linter.unusedVariables false
structure BS where
  vs : List Int
  lg : List Acc
def w64 (x : Int) : Int := x % 18446744073709551616
theorem w64_wrap (x : Int) : IntKind.u64.wrap x = w64 x := by simp [IntKind.wrap, w64, IntKind.signed, IntKind.bits]
theorem w64_bd (x : Int) : 0 ≤ w64 x ∧ w64 x < 18446744073709551616 := by unfold w64; omega
def BS.log (s : BS) (x : Acc) : BS := ⟨s.vs, s.lg ++ [x]⟩
def BS.setlog (s : BS) (c : Nat) (v : Int) (x : Acc) : BS := ⟨s.vs.set c v, s.lg ++ [x]⟩
def BS.fine (s : BS) (t c : Int) : Prop := 0 ≤ t ∧ t < 16 ∧ 0 ≤ c ∧ c < s.vs.length
theorem chk_fine {s : BS} {t c : Int} (h : s.fine t c) : chk s.vs.length t c = 0 := by
  obtain ⟨h1, h2, h3, h4⟩ := h
  unfold chk
  rw [if_neg (by omega), if_neg (by omega)]
theorem chk_not {s : BS} {t c : Int} (h : ¬ s.fine t c) : chk s.vs.length t c ≠ 0 := by
  unfold BS.fine at h
  unfold chk
  split
  · decide
  · split
    · decide
    · omega
/-- What a method does to the bank: it reads as s; p, its cells and its log alone have changed. -/
def FP (p cb : Nat) (lv : Value) : Nat → Prop := fun b => b = p ∨ b = cb ∨ lv.ownBlock = some b
def BStep (B : Nat) (w w' : World) (p cb : Nat) (lv : Value) (s : BS) : Prop := ∃ lv', Bank B w' p cb lv' s.vs s.lg ∧ Ch (FP p cb lv) w w' ∧ Fresh w lv lv'
theorem lk_bd {vs : List Int} (h : ∀ x ∈ vs, 0 ≤ x ∧ x < 18446744073709551616) (c : Nat) : 0 ≤ lk vs c ∧ lk vs c < 18446744073709551616 := by
  unfold lk
  by_cases hc : c < vs.length
  · rw [List.getD_eq_getElem?_getD, List.getElem?_eq_getElem hc]
    exact h _ (List.getElem_mem hc)
  · rw [List.getD_eq_getElem?_getD, List.getElem?_eq_none (by omega)]
    exact ⟨by decide, by decide⟩
theorem lk_set {vs : List Int} {c : Nat} (v : Int) (h : c < vs.length) : lk (vs.set c v) c = v := by simp [lk, h]
theorem set_bd {vs : List Int} (h : ∀ x ∈ vs, 0 ≤ x ∧ x < 18446744073709551616) (c : Nat) {v : Int} (hv : 0 ≤ v ∧ v < 18446744073709551616) : ∀ x ∈ vs.set c v, 0 ≤ x ∧ x < 18446744073709551616 := by
  intro x hx
  rcases List.mem_or_eq_of_mem_set hx with h1 | h1
  · exact h x h1
  · rw [h1]; exact hv
/-- A cell set. -/
theorem Bank.set {B : Nat} {w : World} {p cb : Nat} {lv : Value} {vs : List Int} {lg : List Acc} (h : Bank B w p cb lv vs lg) (c : Nat) {v : Int} (hv : 0 ≤ v ∧ v < 18446744073709551616) :
    Bank B (w.setCell ⟨cb, c, none⟩ (.int .u64 v)) p cb lv (vs.set c v) lg := by
  refine ⟨?_, ?_, ?_, set_bd h.hv c hv, by rw [List.length_set]; exact h.hn, h.bp, h.bc⟩
  · rw [List.length_set]; exact h.hp.far (h.hp.ne h.hc (by decide)) _
  · rw [← u64s_set]; exact h.hc.put c _
  · exact ((Ch.refl (fun b => b = cb) _).set (fun _ => rfl) _).own h.hl (fun k hk e => h.hc.own h.hl (by decide) (by rw [hk, e]))
theorem fresh_set {w : World} {p : Addr} {u v v' : Value} (h : Fresh (w.setCell p u) v v') : Fresh w v v' := h.imp id (fun h b hb => by have := h b hb; simpa [World.setCell] using this)
def BS.load (s : BS) (t c : Int) : BS := s.log ⟨t, c, 1, lk s.vs c.toNat, lk s.vs c.toNat, false⟩
def BS.store (s : BS) (t c v : Int) : BS := s.setlog c.toNat v ⟨t, c, 2, lk s.vs c.toNat, v, false⟩
def BS.add (s : BS) (t c v : Int) : BS := s.setlog c.toNat (w64 (lk s.vs c.toNat + v)) ⟨t, c, 3, lk s.vs c.toNat, w64 (lk s.vs c.toNat + v), false⟩
def BS.swap (s : BS) (t c v : Int) : BS := s.setlog c.toNat v ⟨t, c, 4, lk s.vs c.toNat, v, false⟩
def BS.cas (s : BS) (t c o v : Int) : BS := if lk s.vs c.toNat = o then s.setlog c.toNat v ⟨t, c, 5, lk s.vs c.toNat, v, true⟩ else s.log ⟨t, c, 5, lk s.vs c.toNat, lk s.vs c.toNat, false⟩
theorem w64_sub {x d : Int} (h : 0 ≤ x ∧ x < 18446744073709551616) : w64 (w64 (x + d) - d) = x := by unfold w64; omega
theorem BStep.below {B : Nat} {w w' : World} {p cb : Nat} {lv : Value} {vs : List Int} {lg : List Acc} {s' : BS} (hs : BStep B w w' p cb lv s') (h : Bank B w p cb lv vs lg) (hB : B ≤ w.heap.size) : Below B w w' := by
  obtain ⟨_, _, hc, _⟩ := hs
  refine hc.below hB (fun j hj => ?_)
  rcases hj with rfl | rfl | hj
  · exact h.bp
  · exact h.bc
  · exact (h.hl.lt j hj).1
end Go.Proofs.YtefpabicgefciaaGreat
namespace Go.Proofs.YtefpabicgefciaaGreat
open Go.RowKit
set_option linter.unusedSimpArgs false
set_option linter.unusedVariables false
theorem made_u64 (n : Nat) : madeCells #[.int .u64 0] n = u64s (List.replicate n 0) := by
  unfold madeCells u64s
  apply Array.ext
  · simp
  · intro i h1 h2
    simp only [Array.getElem_map, List.map_replicate, List.getElem_toArray, List.getElem_replicate]
    rw [getElem!_pos #[Value.int .u64 0] _ (by simp [Nat.mod_one])]
    simp [Nat.mod_one]
theorem run_make_u64 {P : Program} (t e : TypeId) (i : TypeInfo) (z : Value) (ht : P.underlying t = some (.slice e)) (hi : (P.info? e).map (fun i => (i.zero, i.size, i.bytes)) = some (some z, 1, 8)) (hz : z.cells = #[.int .u64 0])
    (n : Nat) (hn : n ≤ 1000000) (w : World) : (Instr.makeSlice t (.int .i64 (n : Int)) (.int .i64 (n : Int))).run P w = .ok (.slice (some ⟨w.heap.size, 0, none⟩) n n) (w.alloc (.cells (u64s (List.replicate n 0)) e)) := by
  obtain ⟨i, hi, hz0, hz1, hz2⟩ := info_parts hi
  have hr := run_make (P := P) w t e i z ht hi hz0 .i64 .i64 n n (by omega) (Int.le_refl _) (by rw [hz2]; omega) (by omega)
  simp only [Int.toNat_natCast] at hr
  rw [hr, hz1, Nat.mul_one, hz, made_u64]
theorem Tryz.infoCell : (Tryz.prog.info? 171).map (fun i => (i.zero, i.size, i.bytes)) = some (some (.agg #[.int .u64 0]), 1, 8) := by kernel_rfl
theorem Tryz.infoU64 : (Tryz.prog.info? 22).map (fun i => (i.zero, i.size, i.bytes)) = some (some (.int .u64 0), 1, 8) := by kernel_rfl
def NewBank (B n : Nat) (w : World) (e : Ending) (w' : World) : Prop :=
  ∃ p cb, e = .returned (.tuple #[.pointer (some ⟨p, 0, none⟩), .int .i64 0]) ∧ Bank B w' p cb (.slice none 0 0) (List.replicate n 0) [] ∧ Ch (fun _ => False) w w' ∧ w.heap.size ≤ p ∧ w.heap.size ≤ cb
set_option maxHeartbeats 400000 in
theorem new_ok (B n : Nat) (h1 : 1 ≤ n) (h2 : n ≤ 4096) (w : World) (hB : B ≤ w.heap.size) : Calls Tryz.prog 60 #[.int .i64 n] w (NewBank B n w) := by
  have hmk := run_make_u64 (P := Tryz.prog) 164 171 default _ Tryz.underlying164 Tryz.infoCell rfl n (by omega)
  go_enter Tryz.func60, Tryz.ntmps60
  go_wp2
  go_ret2
  refine ⟨w.heap.size + 1, w.heap.size, rfl, ⟨?_, ?_, World.ownsRow_nil _ _ _ _, ?_, by simpa using h2, by omega, hB⟩, ((Ch.refl _ w).alloc _).alloc _, by omega, Nat.le_refl _⟩
  · rw [List.length_replicate]
    have := Blk.new (w.alloc (.cells (u64s (List.replicate n 0)) 171)) 166 #[.slice (some ⟨w.heap.size, 0, none⟩) n n, .slice none 0 0]
    simpa using this
  · exact (Blk.new w _ _).alloc _
  · intro x hx
    rw [List.eq_of_mem_replicate hx]
    decide
/-- A slice of words that the call made: a block of its own, full. -/
def Words (B : Nat) (w w' : World) (vs : List Int) (e : Ending) : Prop := ∃ b, e = .returned (.slice (some ⟨b, 0, none⟩) vs.length vs.length) ∧ Blk w' b 22 (u64s vs) ∧ Ch (fun _ => False) w w' ∧ w.heap.size ≤ b
theorem values_fill (vs : List Int) (k : Nat) (h : k < vs.length) : (u64s (vs.take k ++ List.replicate (vs.length - k) 0)).setIfInBounds k (.int .u64 (lk vs k)) = u64s (vs.take (k + 1) ++ List.replicate (vs.length - (k + 1)) 0) := by
  rw [u64s_set]
  congr 1
  apply List.ext_getElem?
  intro i
  rw [List.getElem?_set]
  simp only [List.length_append, List.length_take, List.length_replicate]
  by_cases hi : k = i
  · subst hi
    rw [if_pos rfl, if_pos (by omega), List.getElem?_append_left (by simp; omega), List.getElem?_take, if_pos (by omega), List.getElem?_eq_getElem h]
    simp [lk, h]
  · rw [if_neg hi]
    rcases Nat.lt_or_ge i k with h1 | h1
    · rw [List.getElem?_append_left (by simp; omega), List.getElem?_append_left (by simp; omega), List.getElem?_take, List.getElem?_take, if_pos h1, if_pos (by omega)]
    · rw [List.getElem?_append_right (by simp; omega), List.getElem?_append_right (by simp; omega)]
      simp only [List.length_take, List.getElem?_replicate]
      congr 1
      simp only [eq_iff_iff]
      omega
set_option maxHeartbeats 400000 in
theorem values_any (B p cb : Nat) (lv : Value) (s : BS) (w : World) (h : Bank B w p cb lv s.vs s.lg) :
    Calls Tryz.prog 19 #[.pointer (some ⟨p, 0, none⟩)] w fun e w' => Words B w w' s.vs e := by
  have h0 := h.hp.cell 0
  have hplt := h.hp.lt
  simp only [List.getElem?_toArray, List.getElem?_cons_zero] at h0
  have hn := h.hn
  have hmk := run_make_u64 (P := Tryz.prog) 57 22 default _ Tryz.underlying57 Tryz.infoU64 rfl s.vs.length (by omega)
  go_enter Tryz.func19, Tryz.ntmps19
  go_wp2
  go_loopw [15] (fun i wr => ∃ k : Nat, k ≤ s.vs.length ∧ i = .int .i64 k ∧ Blk wr w.heap.size 22 (u64s (s.vs.take k ++ List.replicate (s.vs.length - k) 0)) ∧ Ch (fun _ => False) w wr) (fun i _ => s.vs.length - (intOf i).toNat)
  case atStart => exact ⟨0, Nat.zero_le _, rfl, by simpa using Blk.new w _ _, (Ch.refl _ w).alloc _⟩
  case round =>
    obtain ⟨k, hk, rfl, hb, hch⟩ := hrel
    have h0' := (hch.cell (p := ⟨p, 0, none⟩) hplt id).trans h0
    by_cases hlt : k < s.vs.length
    · have hcell := ((hch.blk h.hc id).cell k).trans (u64s_getD s.vs k hlt)
      have hold : ∃ u, wr.cell? ⟨w.heap.size, k, none⟩ = some u := by
        rw [hb.cell k]
        refine ⟨_, Array.getElem?_eq_getElem ?_⟩
        simp [u64s]; omega
      obtain ⟨u, hu⟩ := hold
      have hfr := hb.free k
      have Hb := hid hb
      clear hb
      go_wp2_with (go_at_call 75; refine (aload _ _ _ _ hcell).mono ?_; rintro e w' ⟨rfl, rfl⟩)
      go_roundw
      case rel => exact ⟨k + 1, by omega, by go_num, by have := Hb.out.put k (.int .u64 (lk s.vs k)); rw [values_fill _ _ hlt] at this; exact this, hch.set (fun h => absurd h (Nat.lt_irrefl _)) _⟩
      case measure => simp [intOf]; omega
    · have : k = s.vs.length := by omega
      subst this
      go_wp2
      go_ret
      refine ⟨w.heap.size, rfl, by simpa using hb, hch, Nat.le_refl _⟩
end Go.Proofs.YtefpabicgefciaaGreat
namespace Go.Proofs.YtefpabicgefciaaGreat
open Go.RowKit Go.ChangeShapes Go.WideShapes Go.Deep
set_option linter.unusedSimpArgs false
set_option linter.unusedVariables false
section
variable {H : Type} {enc : TypeId × Value → H} {P : Program} {w : World} {base : Nat} {spare : Nat → Bool} {held : Bool}
theorem exists_list {α : Type} {R : Nat → α → Prop} : ∀ n, (∀ i, i < n → ∃ x, R i x) → ∃ l : List α, l.length = n ∧ ∀ i x, l[i]? = some x → R i x
  | 0, _ => ⟨[], rfl, by simp⟩
  | n + 1, h => by
    obtain ⟨l, hl, hr⟩ := exists_list n (fun i hi => h i (by omega))
    obtain ⟨x, hx⟩ := h n (by omega)
    refine ⟨l ++ [x], by simp [hl], fun i y hy => ?_⟩
    by_cases hi : i < n
    · rw [List.getElem?_append_left (by omega)] at hy; exact hr i y hy
    · have : i = n := by
        have := (List.getElem?_eq_some_iff.1 hy).1
        simp [hl] at this; omega
      subst this
      rw [List.getElem?_append_right (by omega), hl] at hy
      simp at hy
      subst hy
      exact hx
end
end Go.Proofs.YtefpabicgefciaaGreat
namespace Go.Proofs.YtefpabicgefciaaGreat
open Go.RowKit
set_option linter.unusedSimpArgs false
set_option linter.unusedVariables false
instance (s : BS) (t c : Int) : Decidable (s.fine t c) := by unfold BS.fine; infer_instance
def BS.err (s : BS) (t c : Int) : Int := chk s.vs.length t c
def BS.addv (s : BS) (t c v : Int) : Int := if s.fine t c then w64 (lk s.vs c.toNat + v) else 0
def BS.doLoad (s : BS) (t c : Int) : BS := if s.fine t c then s.load t c else s
def BS.doStore (s : BS) (t c v : Int) : BS := if s.fine t c then s.store t c v else s
def BS.doAdd (s : BS) (t c v : Int) : BS := if s.fine t c then s.add t c v else s
def BS.doSwap (s : BS) (t c v : Int) : BS := if s.fine t c then s.swap t c v else s
def BS.doCas (s : BS) (t c o v : Int) : BS := if s.fine t c then s.cas t c o v else s
theorem BStep.refl {B : Nat} {w : World} {p cb : Nat} {lv : Value} {s : BS} (h : Bank B w p cb lv s.vs s.lg) : BStep B w w p cb lv s := ⟨lv, h, Ch.refl _ _, .inl rfl⟩
theorem err_fine {s : BS} {t c : Int} (h : s.fine t c) : s.err t c = 0 := chk_fine h
section
variable (B p cb : Nat) (lv : Value) (s : BS) (t c : Int) (w : World) (h : Bank B w p cb lv s.vs s.lg) (hlen : s.lg.length < 1000000) (hB : B ≤ w.heap.size)
include h hlen hB
end
/-- A step of the laws. -/
structure StepD where
  d : Int
  t : Int
  c : Int
  o : Int
  v : Int
def StepD.cells (x : StepD) : List Value := [.int .u8 x.d, .int .i64 x.t, .int .i64 x.c, .int .u64 x.o, .int .u64 x.v]
def StepD.ok (x : StepD) : Prop := (0 ≤ x.d ∧ x.d < 256) ∧ (0 ≤ x.o ∧ x.o < 18446744073709551616) ∧ (0 ≤ x.v ∧ x.v < 18446744073709551616) ∧ (-9223372036854775808 ≤ x.c ∧ x.c < 9223372036854775808)
def BS.step (s : BS) (x : StepD) : BS :=
  if x.d = 0 then s.doLoad x.t x.c else if x.d = 1 then s.doStore x.t x.c x.v else if x.d = 2 then s.doAdd x.t x.c x.v else if x.d = 3 then s.doSwap x.t x.c x.v else s.doCas x.t x.c x.o x.v
end Go.Proofs.YtefpabicgefciaaGreat
namespace Go.Proofs.YtefpabicgefciaaGreat
open Go.RowKit
set_option linter.unusedVariables false
set_option linter.unusedSimpArgs false
theorem run_slice_low {P : Program} (t e : TypeId) (size : Nat) (ht : P.underlying t = some (.slice e)) (hz : (P.info? e).map (·.size) = some size) (A : Option Addr) (n cap i : Nat) (hi : i ≤ n) (hc : n ≤ cap) (w : World) :
    (Instr.sliceAt t (.slice A n cap) (some (.int .i64 (i : Int))) none none).run P w = .ok (.slice (if cap = i then A else A.map (·.add (i * size))) (n - i) (cap - i)) w := by
  cases hq : P.info? e with
  | none => simp [hq] at hz
  | some inf =>
    have hsz : inf.size = size := by simpa [hq] using hz
    have h1 : (0 : Int) ≤ (i : Int) ∧ (i : Int) ≤ (n : Int) := by omega
    simp only [Instr.sliceAt, Sem.run_bind, run_underlying ht, Result.andThen_ok, Instr.slice, Instr.sliceBounds, Instr.sliceBound, asIntOf, Sem.run_pure, h1, and_self, if_true, Int.toNat_natCast, sizeOf, typeInfo, hq]
    simp [program, Sem.run, hq, hsz]
end Go.Proofs.YtefpabicgefciaaGreat
