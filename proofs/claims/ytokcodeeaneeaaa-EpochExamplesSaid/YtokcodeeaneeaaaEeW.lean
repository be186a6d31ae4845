/- EpochExamples: the walk. -/
import Derived.Test.YtokcodeeaneeaaaEeD
import Derived.Test.YtokcodeeaneeaaaFrame
namespace Go.Proofs.Ytokcodeeaneeaaa
open Go.RowKit
set_option linter.unusedVariables false
set_option linter.unusedSimpArgs false
set_option linter.unusedSectionVars false

def SameInts (w : World) (a : Option Addr) (n : Nat) (xs : List Int) : Prop := xs.length = n ∧ (0 < n → ∃ b off, a = some ⟨b, off, none⟩ ∧ ∀ i, i < n → w.cell? ⟨b, off + i, none⟩ = some (.int .i64 (lk xs i)))
set_option maxHeartbeats 1000000 in
theorem eqInts_any (a b : Option Addr) (n ca cb : Nat) (xs : List Int) (w : World) (ha : SameInts w a n xs) (hb : SameInts w b n xs) (hn : n < 1000000) :
    Calls Try.prog 36 #[.slice a n ca, .slice b n cb] w fun e w' => e = .returned (.bool true) ∧ ∃ k, w' = w.drewN k := by
  have hne : ((n : Int) != (n : Int)) = false := by simp
  go_enter Try.func36, Try.ntmps36
  go_wp2_with fail
  go_loopw [5] (fun i wr => ∃ k : Nat, k ≤ n ∧ i = .int .i64 k ∧ ∃ d, wr = w.drewN d) (fun i _ => n - (intOf i).toNat)
  case atStart => exact ⟨0, Nat.zero_le _, rfl, 0, rfl⟩
  case round =>
    obtain ⟨k, hk, rfl, d, rfl⟩ := hrel
    by_cases hlt : k < n
    · obtain ⟨b1, o1, rfl, h1⟩ := ha.2 (by omega)
      obtain ⟨b2, o2, rfl, h2⟩ := hb.2 (by omega)
      have c1 := h1 k hlt
      have c2 := h2 k hlt
      clear h1 h2
      have he' : (lk xs k != lk xs k) = false := by simp
      go_wp2_with fail
      go_quiet (fail)
      go_wp2_with fail
      go_roundw
      case rel => exact ⟨k + 1, by omega, by go_num, _, rfl⟩
      case measure => simp [intOf]; omega
    · obtain rfl : k = n := by omega
      go_wp2_with fail
      go_ret
      exact ⟨rfl, _, rfl⟩
theorem ints_of_own {w : World} {B n c : Nat} {A : Option Addr} {xs : List Int} (h : w.ownsRow B 3 1 (.slice A n c) n (xs.map (Value.int .i64))) : SameInts w A n xs := by
  have hl : xs.length = n := by have := h.1; simpa using this
  refine ⟨hl, fun h0 => ?_⟩
  obtain ⟨g, cap, hv, _, _, _, hg⟩ := own_form h h0
  injection hv with hA _ _
  subst hA
  refine ⟨g, 0, rfl, fun i hi => ?_⟩
  have hc := h.cells (g := g) rfl i (.int .i64 (lk xs i)) (by simp [lk, show i < xs.length by omega])
  rw [addr_add0] at hc
  rw [Nat.zero_add]; exact hc
theorem SameInts.ch {w w' : World} {a : Option Addr} {n : Nat} {xs : List Int} (h : SameInts w a n xs) (c : ∀ b o, a = some ⟨b, o, none⟩ → ∀ i, w'.cell? ⟨b, i, none⟩ = w.cell? ⟨b, i, none⟩) : SameInts w' a n xs :=
  ⟨h.1, fun h0 => by
    obtain ⟨b, o, rfl, hc⟩ := h.2 h0
    exact ⟨b, o, rfl, fun i hi => (c b o rfl _).trans (hc i hi)⟩⟩

theorem ex_init {B p cb qb pb lb : Nat} {w0 w : World} (hB : B ≤ w.heap.size) (hbel : Below B w0 w) (hE : EpochM B w p cb qb (.slice none 0 0) (⟨List.replicate 3 0, []⟩ : BS) (edf 2) (pinsV pb 2) (.pointer none)) (hP : Blk w pb 45 (pinsA [none, none])) (hL : Blk w lb 133 (lbCells (.slice none 0 0) (.slice none 0 0) (.slice none 0 0))) (bp : B ≤ pb) (bl : B ≤ lb) :
    ExG B p cb qb pb lb (⟨List.replicate 3 0, []⟩ : BS) [none, none] none [] [] [] w0 w := by
  have m0 := Mem.nil hB hbel
  have m1 := m0.addG (epochR B p cb qb (.slice none 0 0) (⟨List.replicate 3 0, []⟩ : BS) (edf 2) (pinsV pb 2) (.pointer none)) hE (fun s h => by simp at h) (fun k hk => by
    rcases hk with (rfl | rfl | hk) | rfl
    · exact hE.b.bp
    · exact hE.b.bc
    · cases hk
    · exact hE.bf)
  have m2 := m1.addG (blkR pb 45 (pinsA [none, none])) hP (by
    intro r hr k hk hk'
    simp at hr
    subst hr
    obtain rfl : k = pb := hk'
    rcases hk with (e | e | e) | e
    · exact hP.ne hE.b.hp (by decide) e
    · exact hP.ne hE.b.hc (by decide) e
    · cases e
    · exact hP.ne hE.fd (by decide) e) (fun k hk => by rw [show k = pb from hk]; exact bp)
  have m3 := m2.addG (blkR lb 133 (lbCells (.slice none 0 0) (.slice none 0 0) (.slice none 0 0))) hL (by
    intro r hr k hk hk'
    simp at hr
    obtain rfl : k = lb := hk'
    rcases hr with rfl | rfl
    · rcases hk with (e | e | e) | e
      · exact hL.ne hE.b.hp (by decide) e
      · exact hL.ne hE.b.hc (by decide) e
      · cases e
      · exact hL.ne hE.fd (by decide) e
    · exact hL.ne hP (by decide) hk) (fun k hk => by rw [show k = lb from hk]; exact bl)
  have m4 := m3.addN (rowR B 92 1 0 (.slice none 0 0) []) (World.ownsRow_nil _ _ _ _) (fun k hk => by cases hk)
  have m5 := m4.addN (rowR B 92 1 0 (.slice none 0 0) []) (World.ownsRow_nil _ _ _ _) (fun k hk => by cases hk)
  have m6 := m5.addN (rowR B 92 1 0 (.slice none 0 0) []) (World.ownsRow_nil _ _ _ _) (fun k hk => by cases hk)
  have m7 := m6.addNs [pureR True, pureR True, pureR True] (by simp)
  exact ⟨_, _, _, _, m7, rfl, by decide, by decide⟩
def xs1 : BS := (pnstep (⟨List.replicate 3 0, []⟩ : BS) (edf 2) ⟨0, 0, 0, 9⟩).1
def xs2 : BS := (pnstep xs1 (edf 2) ⟨0, 0, 0, 10⟩).1
theorem xq1 : (pnstep (⟨List.replicate 3 0, []⟩ : BS) (edf 2) ⟨0, 0, 0, 9⟩).2 = ⟨0, 0, 0, 10⟩ := rfl
theorem xq2 : (pnstep xs1 (edf 2) ⟨0, 0, 0, 10⟩).2 = ⟨0, 0, 0, 0⟩ := rfl
theorem xpinL : pinL xs2 (edf 2) 2 = [0] := by decide +kernel
def xs3 : BS := (sns xs2 3).1
def xs4 : BS := (snstep xs3 (edf 2) ⟨2, 0, false, 34⟩).1
def xq4 : Sn := (snstep xs3 (edf 2) ⟨2, 0, false, 34⟩).2
def xs5 : BS := xs4.store (0 : Nat) ((edf 2).slot 0 : Nat) 0
def xs6 : BS := (sns xs5 3).1
def xs7 : BS := (sns xs6 3).1
set_option maxRecDepth 100000 in
set_option maxHeartbeats 4000000 in
theorem epex_walk (w : World) : Calls Try.prog 9 #[] w fun e w' => e = .returned (.bool true) ∧ Below w.heap.size w w' := by
  go_enter Try.func9, Try.ntmps9
  go_wp2_with fail
  refine (new_ok w.heap.size 3 (by decide) (by decide) w (Nat.le_refl _)).mono ?_
  rintro e w1 ⟨p, cb, rfl, hbank, hc1, hp1, hcb1⟩
  have HB := hid hbank
  have HC := hid hc1
  clear hbank hc1
  go_wp2_with fail
  refine (enew_any w.heap.size p cb _ (⟨List.replicate 3 0, []⟩ : BS) 0 1 2 w1 HB.out (by decide)).mono ?_
  rintro e w2 ⟨hc2, hr2⟩
  rw [show ((⟨List.replicate 3 0, []⟩ : BS)).vs = List.replicate (2 + 1) 0 from rfl, show eerr (List.replicate (2 + 1) 0) 0 1 2 = 0 from eerr_freshG 2 (by decide)] at hr2
  rcases hr2 with ⟨h, _⟩ | ⟨_, qb, pb, hqb, hpb, rfl, hqd, hpd⟩
  · exact absurd rfl h
  have HQ := hid hqd
  have HP := hid hpd
  have HC2 := hid hc2
  clear hqd hpd hc2
  go_wp2_with fail
  refine (newlimbo w2).mono ?_
  rintro e w3 ⟨rfl, hlb, hc3⟩
  obtain ⟨lb, hlbe⟩ : ∃ lb, lb = w2.heap.size := ⟨_, rfl⟩
  rw [← hlbe] at hlb ⊢
  have c13 : Ch (fun _ => False) w1 w3 := HC2.out.trans hc3 (fun _ _ h => h)
  have c03 : Ch (fun _ => False) w w3 := HC.out.trans c13 (fun _ _ h => h)
  have hE : EpochM w.heap.size w3 p cb qb (.slice none 0 0) (⟨List.replicate 3 0, []⟩ : BS) (edf 2) (pinsV pb 2) (.pointer none) :=
    ⟨HB.out.ch c13 id id (fun _ _ => id), by have h := hc3.blk HQ.out id; simpa [edCells, edf, pinsV] using h, ⟨by decide, by decide, fun i hi => by
      have hi' : i < 2 := hi
      show 0 ≤ (1 : Int) + i ∧ (1 : Int) + i < ((3 : Nat) : Int)
      omega⟩, Nat.le_trans HC.out.size hqb⟩
  have hPB : Blk w3 pb 45 (pinsA [none, none]) := by
    have h := hc3.blk HP.out id
    simpa [pinsA, pinV, madeX_repG] using h
  have H0 := hid (ex_init c03.size (c03.below (Nat.le_refl _) (fun _ h => h.elim)) hE hPB hlb (Nat.le_trans HC.out.size hpb) (by rw [hlbe]; exact Nat.le_trans HC.out.size HC2.out.size))
  clear hE hPB hlb hlbe c13 c03 hc3 HB HC HC2 HQ HP hp1 hcb1 hqb hpb
  go_wp2_with fail
  refine (H0.out.pin (k := 0) 0 (by decide) (by decide) rfl).mono ?_
  rintro e w4 ⟨g, rfl, h4⟩
  have H4 := hid (show ExG w.heap.size p cb qb pb lb (⟨List.replicate 3 0, []⟩ : BS) [some (g, ⟨0, 0, 0, 9⟩), none] none [] [] [] w w4 from h4)
  clear h4
  go_wp2_with fail
  refine (H4.out.pin_busy (k := 0) 1 (by decide) (by decide) rfl).mono ?_
  rintro e w5 ⟨rfl, rfl⟩
  go_wp2_with fail
  refine (H4.out.unpin_busy (k := 0) 0 (by decide) (by decide) rfl (.inl rfl)).mono ?_
  rintro e w6 ⟨rfl, rfl⟩
  go_wp2_with fail
  refine (H4.out.unpin_no (k := 1) 0 (by decide) (by decide) rfl).mono ?_
  rintro e w7 ⟨rfl, rfl⟩
  go_wp2_with fail
  refine (H4.out.step (k := 0) (by decide) rfl (by decide) (by decide) (.inl rfl)).mono ?_
  rintro e w8 ⟨rfl, h8⟩
  have H8 := hid (show ExG w.heap.size p cb qb pb lb xs1 [some (g, ⟨0, 0, 0, 10⟩), none] none [] [] [] w w8 from h8)
  clear h8
  go_wp2_with fail
  refine (H8.out.step (k := 0) (by decide) rfl (by decide) (by decide) (.inr rfl)).mono ?_
  rintro e w9 ⟨rfl, h9⟩
  have H9 := hid (show ExG w.heap.size p cb qb pb lb xs2 [some (g, ⟨0, 0, 0, 0⟩), none] none [] [] [] w w9 from h9)
  clear h9
  go_wp2_with fail
  refine (H9.out.next (k := 0) rfl).mono ?_
  rintro e w10 ⟨rfl, rfl⟩
  go_wp2_with fail
  refine H9.out.pinned.mono ?_
  rintro e w11 ⟨v, rfl, hrow, c11⟩
  rw [xpinL] at hrow
  obtain ⟨A, ca, hv, _⟩ := own_slice hrow
  subst hv
  have H11 := hid (H9.out.keep c11)
  have HI := hid (ints_of_own (xs := [0]) hrow)
  clear hrow c11
  go_wp2_with fail
  refine (eqInts_any A _ 1 ca 1 [0] _ ⟨rfl, fun h0 => ?hx⟩ ⟨rfl, fun _ => ⟨_, 0, rfl, fun i hi => ?hy⟩⟩ (by decide)).mono ?_
  case hx =>
    obtain ⟨b, o, hb, hc⟩ := HI.out.2 h0
    exact ⟨b, o, hb, fun i hi => (World.cell?_alloc_lt _ _ _ (block_lt_of_cell (hc i hi))).trans (hc i hi)⟩
  case hy =>
    obtain rfl : i = 0 := by omega
    exact (Blk.new w11 _ _).cell 0
  rintro e w12 ⟨rfl, n12, rfl⟩
  have H12 := hid (show ExG w.heap.size p cb qb pb lb xs2 [some (g, ⟨0, 0, 0, 0⟩), none] none [] [] [] w _ from (H11.out.keep ((Ch.refl _ w11).alloc (.cells #[.int .i64 0] 3))).drewN n12)
  go_wp2_with fail
  refine (H12.out.advances (by decide) trivial (by decide +kernel) (by decide +kernel) (by decide +kernel) (by decide +kernel) (by decide +kernel)).mono ?_
  rintro e w13 ⟨rfl, g3, h13⟩
  have H13 := hid (show ExG w.heap.size p cb qb pb lb xs3 [some (g, ⟨0, 0, 0, 0⟩), none] (some (g3, (sns xs2 3).2)) [] [] [] w w13 from h13)
  clear h13
  go_wp2_with fail
  refine H13.out.now.mono ?_
  rintro e w14 ⟨rfl, n14, rfl⟩
  rw [show lk xs3.vs 0 = 1 from by decide +kernel]
  have H14 := hid (H13.out.drewN n14)
  go_wp2_with fail
  refine (H14.out.scanB 2 (by decide) (by show (sns xs2 3).2.ph = 0; decide +kernel)).mono ?_
  rintro e w15 ⟨g4, rfl, h15⟩
  have H15 := hid (show ExG w.heap.size p cb qb pb lb xs3 [some (g, ⟨0, 0, 0, 0⟩), none] (some (g4, ⟨2, 0, false, 34⟩)) [] [] [] w w15 from h15)
  clear h15
  go_wp2_with fail
  refine (H15.out.scanS (by decide +kernel) (by decide) (.inl ⟨rfl, by decide⟩)).mono ?_
  rintro e w16 ⟨rfl, h16⟩
  rw [show ((snstep xs3 (edf 2) ⟨2, 0, false, 34⟩).2.ph == 0) = true by decide +kernel]
  have H16 := hid (show ExG w.heap.size p cb qb pb lb xs4 [some (g, ⟨0, 0, 0, 0⟩), none] (some (g4, xq4)) [] [] [] w w16 from h16)
  clear h16
  go_wp2_with fail
  refine (H16.out.result (by decide +kernel)).mono ?_
  rintro e w17 ⟨rfl, rfl⟩
  rw [show xq4.adv = false by decide +kernel]
  go_wp2_with fail
  refine ((H16.out.keep ((Ch.refl _ w16).alloc (.cells #[.int .u64 77] 92))).retire 1 ⟨by decide, by decide⟩ (hs := [77]) rfl (Nat.le_refl _) (fun i u hu => by rw [Nat.zero_add]; exact ((Blk.new w16 _ _).cell i).trans (by simpa [hvs] using hu)) (by decide) (by decide) (by decide)).mono ?_
  rintro e w18 (⟨hd, _⟩ | ⟨_, rfl, h18⟩)
  · exact absurd (by decide) hd
  have H18 := hid (show ExG w.heap.size p cb qb pb lb xs4 [some (g, ⟨0, 0, 0, 0⟩), none] (some (g4, xq4)) [] [77] [] w w18 from h18)
  clear h18
  go_wp2_with fail
  refine (H18.out.due 1 ⟨by decide, by decide⟩).mono ?_
  rintro e w19 ⟨v19, rfl, hv19, h19⟩
  have H19 := hid (show ExG w.heap.size p cb qb pb lb xs4 [some (g, ⟨0, 0, 0, 0⟩), none] (some (g4, xq4)) [] [77] [] w w19 from h19)
  obtain ⟨A19, c19, hs19, _⟩ := (show HsAt w19 v19 [] from hv19)
  subst hs19
  clear h19 hv19
  go_wp2_with fail
  refine (H19.out.unpin (k := 0) (by decide +kernel) 0 (by decide) (by decide) rfl rfl).mono ?_
  rintro e w20 ⟨rfl, h20⟩
  have H20 := hid (show ExG w.heap.size p cb qb pb lb xs5 [none, none] (some (g4, xq4)) [] [77] [] w w20 from h20)
  clear h20
  go_wp2_with fail
  refine (H20.out.advances (by decide +kernel) (show xq4.ph = 0 by decide +kernel) (by decide +kernel) (by decide +kernel) (by decide +kernel) (by decide +kernel) (by decide +kernel)).mono ?_
  rintro e w21 ⟨rfl, g5, hx⟩
  have H21 := hid (show ExG w.heap.size p cb qb pb lb xs6 [none, none] (some (g5, (sns xs5 3).2)) [] [77] [] w w21 from hx)
  clear hx
  go_wp2_with fail
  refine (H21.out.due 2 ⟨by decide, by decide⟩).mono ?_
  rintro e w22 ⟨v22, rfl, hv, hx⟩
  have H22 := hid (show ExG w.heap.size p cb qb pb lb xs6 [none, none] (some (g5, (sns xs5 3).2)) [] [77] [] w w22 from hx)
  have HVv22 := hid (show HsAt w22 v22 [] from hv)
  obtain ⟨Av22, cv22, hsv22, _⟩ := (show HsAt w22 v22 [] from hv)
  subst hsv22
  clear hx hv
  go_wp2_with fail
  refine (H22.out.advances (by decide +kernel) (show (sns xs5 3).2.ph = 0 by decide +kernel) (by decide +kernel) (by decide +kernel) (by decide +kernel) (by decide +kernel) (by decide +kernel)).mono ?_
  rintro e w23 ⟨rfl, g6, hx⟩
  have H23 := hid (show ExG w.heap.size p cb qb pb lb xs7 [none, none] (some (g6, (sns xs6 3).2)) [] [77] [] w w23 from hx)
  clear hx
  go_wp2_with fail
  refine (H23.out.due 3 ⟨by decide, by decide⟩).mono ?_
  rintro e w24 ⟨v24, rfl, hv, hx⟩
  have H24 := hid (show ExG w.heap.size p cb qb pb lb xs7 [none, none] (some (g6, (sns xs6 3).2)) [] [] [] w w24 from hx)
  have HVv24 := hid (show HsAt w24 v24 [77] from hv)
  obtain ⟨Av24, cv24, hsv24, _⟩ := (show HsAt w24 v24 [77] from hv)
  subst hsv24
  clear hx hv
  go_wp2_with fail
  refine (eqHs_any _ _ [77] _ (HVv24.out.keep ((Ch.refl _ w24).alloc (.cells #[.int .u64 77] 92))) ⟨some ⟨w24.heap.size, 0, none⟩, 1, rfl, by decide, fun _ => ⟨_, 0, rfl, fun i u hu => by rw [Nat.zero_add]; exact ((Blk.new w24 _ _).cell i).trans (by simpa [hvs] using hu)⟩⟩ (by decide)).mono ?_
  rintro e w25 ⟨rfl, n25, rfl⟩
  have H25 := hid (show ExG w.heap.size p cb qb pb lb xs7 [none, none] (some (g6, (sns xs6 3).2)) [] [] [] w _ from (H24.out.keep ((Ch.refl _ w24).alloc (.cells #[.int .u64 77] 92))).drewN n25)
  go_wp2_with fail
  obtain ⟨wa, hwa⟩ : ∃ x, x = (w24.alloc (.cells #[.int .u64 77] 92)).drewN n25 := ⟨_, rfl⟩
  first | rw [← hwa] at H25 ⊢ | skip
  refine H25.out.handles.mono ?_
  rintro e w26 ⟨v26, rfl, hv, hx⟩
  have H26 := hid hx
  obtain ⟨A26, c26, hs26, _⟩ := (show HsAt w26 v26 [] from hv)
  subst hs26
  clear hx hv
  go_wp2_with fail
  refine ((H26.out.keep ((Ch.refl _ w26).alloc (.cells #[.int .u64 0] 92))).retire_zero 4 (hs := [0]) rfl (Nat.le_refl _) (fun i u hu => by rw [Nat.zero_add]; exact ((Blk.new w26 _ _).cell i).trans (by simpa [hvs] using hu)) (by decide) (by decide) (by decide)).mono ?_
  rintro e w27 ⟨rfl, hx⟩
  have H27 := hid hx
  clear hx
  go_wp2_with fail
  refine ((H27.out.keep ((Ch.refl _ w27).alloc (.cells #[.int .u64 5, .int .u64 5] 92))).retire 4 ⟨by decide, by decide⟩ (hs := [5, 5]) rfl (Nat.le_refl _) (fun i u hu => by rw [Nat.zero_add]; exact ((Blk.new w27 _ _).cell i).trans (by simpa [hvs] using hu)) (by decide) (by decide) (by decide)).mono ?_
  rintro e w28 (⟨_, rfl, hx⟩ | ⟨hd, _⟩)
  case inr => exact absurd hd (by decide)
  have H28 := hid hx
  clear hx
  go_wp2_with fail
  refine ((H28.out.keep ((Ch.refl _ w28).alloc (.cells #[.int .u64 5] 92))).retire 4 ⟨by decide, by decide⟩ (hs := [5]) rfl (Nat.le_refl _) (fun i u hu => by rw [Nat.zero_add]; exact ((Blk.new w28 _ _).cell i).trans (by simpa [hvs] using hu)) (by decide) (by decide) (by decide)).mono ?_
  rintro e w29 (⟨hd, _⟩ | ⟨_, rfl, hx⟩)
  case inl => exact absurd (by decide) hd
  have H29 := hid hx
  clear hx
  go_wp2_with fail
  refine ((H29.out.keep ((Ch.refl _ w29).alloc (.cells #[.int .u64 6, .int .u64 5] 92))).retire 5 ⟨by decide, by decide⟩ (hs := [6, 5]) rfl (Nat.le_refl _) (fun i u hu => by rw [Nat.zero_add]; exact ((Blk.new w29 _ _).cell i).trans (by simpa [hvs] using hu)) (by decide) (by decide) (by decide)).mono ?_
  rintro e w30 (⟨_, rfl, hx⟩ | ⟨hd, _⟩)
  case inr => exact absurd hd (by decide)
  have H30 := hid hx
  clear hx
  go_wp2_with fail
  refine H30.out.handles.mono ?_
  rintro e w31 ⟨v31, rfl, hv, hx⟩
  have H31 := hid hx
  have HVv31 := hid (show HsAt w31 v31 [5] from hv)
  obtain ⟨A31, c31, hs31, _⟩ := (show HsAt w31 v31 [5] from hv)
  subst hs31
  clear hx hv
  go_wp2_with fail
  refine (eqHs_any _ _ [5] _ (HVv31.out.keep ((Ch.refl _ w31).alloc (.cells #[.int .u64 5] 92))) ⟨some ⟨w31.heap.size, 0, none⟩, 1, rfl, by decide, fun _ => ⟨_, 0, rfl, fun i u hu => by rw [Nat.zero_add]; exact ((Blk.new w31 _ _).cell i).trans (by simpa [hvs] using hu)⟩⟩ (by decide)).mono ?_
  rintro e w32 ⟨rfl, n32, hw32⟩
  have H32 := hid (H31.out.keep (show Ch (fun _ => False) w31 w32 from hw32 ▸ ((Ch.refl _ w31).alloc (.cells #[.int .u64 5] 92)).drewN n32))
  clear hw32
  go_wp2_with fail
  refine (zpin _).mono ?_
  rintro e _ ⟨rfl, rfl⟩
  go_wp2_with fail
  refine (zscan _).mono ?_
  rintro e _ ⟨rfl, rfl⟩
  go_wp2_with fail
  refine (zres _).mono ?_
  rintro e _ ⟨rfl, rfl⟩
  go_wp2_with fail
  refine (znew _).mono ?_
  rintro e _ ⟨rfl, rfl⟩
  go_wp2_with fail
  refine (zpstep _).mono ?_
  rintro e _ ⟨rfl, rfl⟩
  go_wp2_with fail
  refine (zsstep _).mono ?_
  rintro e _ ⟨rfl, rfl⟩
  go_wp2_with fail
  refine (zunpin _).mono ?_
  rintro e _ ⟨rfl, rfl⟩
  go_wp2_with fail
  refine (znow _).mono ?_
  rintro e _ ⟨rfl, rfl⟩
  go_wp2_with fail
  refine (zpinned _).mono ?_
  rintro e _ ⟨rfl, rfl⟩
  go_wp2_with fail
  refine (zpnext _).mono ?_
  rintro e _ ⟨rfl, rfl⟩
  go_wp2_with fail
  refine (zsnext _).mono ?_
  rintro e _ ⟨rfl, rfl⟩
  go_wp2_with fail
  refine (zretire _).mono ?_
  rintro e _ ⟨rfl, rfl⟩
  go_wp2_with fail
  refine (zdue _).mono ?_
  rintro e _ ⟨rfl, rfl⟩
  go_wp2_with fail
  refine (zhandles _).mono ?_
  rintro e _ ⟨rfl, rfl⟩
  go_wp2_with fail
  go_ret
  exact ⟨rfl, H32.out.bel⟩
end Go.Proofs.Ytokcodeeaneeaaa
