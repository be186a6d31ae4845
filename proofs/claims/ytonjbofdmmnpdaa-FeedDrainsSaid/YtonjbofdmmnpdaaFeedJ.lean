/- The feed's run: produce. -/
import Derived.Test.YtonjbofdmmnpdaaFeedI
namespace Go.Proofs.Ytonjbofdmmnpdaa
open Go.RowKit
set_option linter.unusedVariables false
set_option linter.unusedSimpArgs false
set_option linter.unusedSectionVars false


set_option maxRecDepth 100000 in
set_option maxHeartbeats 2000000 in
theorem produce_beg0 (B p cb fb X : Nat) (x : Xs) (m H T a : Nat) (k : Int) (w0 w : World) (hI : Inv x m H T a) (hm : m < 1000) (hP : x.P = none) (hX : RunX B p cb fb X x w0 w) (hk : 0 ≤ k ∧ k ≤ 2) (hpos : x.pushed.length = 0) :
    Calls Try.prog 15 #[.pointer (some ⟨X, 0, none⟩), .int .u64 k] w fun e w' => e = .returned (.bool true) ∧ RunX B p cb fb X ((x.begP k).stP ⟨1, 26, 1 + k + lastI x.pushed, 0⟩) w0 w' := by
  have hIb := inv_begP hI hP hk
  obtain ⟨T', hI', hfl, hsx⟩ := inv_stP hIb (by omega) rfl
  have hlP := hI.lastP
  have hlg := hI.lg
  have hn6 := hI.n1
  have hitl : x.items.length ≤ 2000 := by rw [hI.il]; have := hI.HT; omega
  have hpul : x.pushed.length ≤ 2000 := by have := hI.pm; omega
  have hend : x.ended ≤ 2000 := by have := hI.pl; rw [hP] at this; simp at this; omega
  have hpg : x.f.pushing = false := by rw [hI.fpr.1, hP]; rfl
  have hla : x.f.last < 1 + k + lastI x.pushed := by rw [hI.flast]; omega
  obtain ⟨lv, vp, vi, vg, vl, pb, rb, hR⟩ := hX
  rw [hP] at hR
  obtain ⟨z, hz⟩ : ∃ z, z = 1 + k + lastI x.pushed := ⟨_, rfl⟩
  have hzb : 0 < z ∧ z < 100000 := by omega
  have ho : pstep x.s (x.begP k).f ⟨1, 26, 1 + k + lastI x.pushed, 0⟩ = (x.s.load 1 x.f.first, 27, 0) := by
    unfold pstep; rw [if_pos rfl, if_neg (by rw [show cAct x.s (x.begP k).f = 1 from hI.act]; decide)]; rfl
  have HiH : Hid (cHead (x.s.load 1 x.f.first) ((x.begP k).f.psh true) = (H : Nat)) := hid (by have := hI'.hH; simp only [Xs.stP] at this; rw [show (x.begP k).s = x.s from rfl, ho] at this; exact this)
  have HiT : Hid (cTail (x.s.load 1 x.f.first) ((x.begP k).f.psh true) = (T' : Nat)) := hid (by have := hI'.hT; simp only [Xs.stP] at this; rw [show (x.begP k).s = x.s from rfl, ho] at this; exact this)
  have HiL : Hid (H ≤ T' ∧ T' ≤ 1000000) := hid (by have := hI'.HT; omega)
  obtain ⟨fl, hflen⟩ : ∃ fl : Nat, flen (x.s.load 1 x.f.first) ((x.begP k).f.psh true) = fl := ⟨_, rfl⟩
  have hfl' : fl ≤ x.f.n := by
    rw [show (x.begP k).s = x.s from rfl, ho] at hfl
    rw [← hflen]; exact hfl
  have HiF := hid hflen
  obtain ⟨i0, hi, hz0, hz1, hz2⟩ := info_parts Try.infoU64
  clear hfl hflen hI' hIb hI
  obtain ⟨Ap, cp, rfl, _⟩ := own_slice hR.rp
  obtain ⟨Ai, ci, rfl, _⟩ := own_slice hR.ri
  obtain ⟨S, hS⟩ : ∃ S : Nat → Prop, ∀ k, S k ↔ k = X := ⟨_, fun _ => Iff.rfl⟩
  have hSp : Mix.Has S X := (hS _).2 rfl
  have HS := hid hS
  clear hS
  have hbN1 : decide ((fl : Int) ≤ (x.f.n : Int)) = true := by simp; omega
  have hbN2 : decide (fl ≤ x.f.n) = true := by simp; omega
  have HZk : Hid (1 + k = z) := hid (by rw [hz, lastI_zero hpos]; omega)
  have hgt : decide ((0 : Int) < (x.pushed.length : Int)) = false := decide_eq_false (by omega)
  have hgt2 : decide (0 < x.pushed.length) = false := decide_eq_false (by omega)
  have hbeg : x.begP k = { x with f := { x.f with last := z, pushing := true }, P := some ⟨1, 26, z, 0⟩, steps := 0, pushed := x.pushed ++ [z] } := by unfold Xs.begP; rw [← hz]
  rw [hbeg, ← hz] at ho ⊢
  rw [hbeg] at HiH HiT HiF
  rw [← hz] at hla
  have x0 : w.cell? ⟨X, 0, none⟩ = some (.pointer (some ⟨fb, 0, none⟩)) := hR.x.cell 0
  have gx0 := hR.x.free 0
  have x1 : w.cell? ⟨X, 1, none⟩ = some (.pointer none) := hR.x.cell 1
  have gx1 := hR.x.free 1
  have x3 : w.cell? ⟨X, 3, none⟩ = some (.int .i64 x.f.n) := hR.x.cell 3
  have gx3 := hR.x.free 3
  have x4 : w.cell? ⟨X, 4, none⟩ = some (.slice Ap x.pushed.length cp) := hR.x.cell 4
  have gx4 := hR.x.free 4
  have x5 : w.cell? ⟨X, 5, none⟩ = some (.slice Ai x.items.length ci) := hR.x.cell 5
  have gx5 := hR.x.free 5
  have x6 : w.cell? ⟨X, 6, none⟩ = some (.int .i64 x.ended) := hR.x.cell 6
  have gx6 := hR.x.free 6
  have x9 : w.cell? ⟨X, 9, none⟩ = some (.int .i64 x.steps) := hR.x.cell 9
  have gx9 := hR.x.free 9
  have x11 : w.cell? ⟨X, 11, none⟩ = some (.bool x.full) := hR.x.cell 11
  have gx11 := hR.x.free 11
  have x18 : w.cell? ⟨X, 18, none⟩ = some (.bool true) := hR.x.cell 18
  have gx18 := hR.x.free 18
  have HR := hid hR
  have Ho := hid ho
  have HZ := hid hz
  have HP := hid hP
  have HPG := hid hpg
  clear hR ho hz hP hpg hbeg hpos
  go_enter Try.func15, Try.ntmps15
  go_wp2_with fail
  have HRb := HR
  rw [HZk.out]
  refine (fpush_ok B p cb fb lv x.s x.f _ HRb.out.fm 1 (z) ⟨by decide, by decide⟩ hla HPG.out).mono ?_
  rintro e w1 ⟨qb, rfl, hf1, hq1, hc1, hqb⟩
  have hR1 := (HRb.out.fed hf1 hc1).setP (q := ⟨1, 26, z, 0⟩) (hq1) (Nat.le_trans HRb.out.bz hqb)
  clear hf1 hq1 hc1
  clear x0 gx0 x1 gx1 x3 gx3 x4 gx4 x5 gx5 x6 gx6 x9 gx9 x11 gx11 x18 gx18
  have x0 : w1.cell? ⟨X, 0, none⟩ = some (.pointer (some ⟨fb, 0, none⟩)) := hR1.x.cell 0
  have gx0 := hR1.x.free 0
  have x1 : w1.cell? ⟨X, 1, none⟩ = some (.pointer none) := hR1.x.cell 1
  have gx1 := hR1.x.free 1
  have x3 : w1.cell? ⟨X, 3, none⟩ = some (.int .i64 x.f.n) := hR1.x.cell 3
  have gx3 := hR1.x.free 3
  have x4 : w1.cell? ⟨X, 4, none⟩ = some (.slice Ap x.pushed.length cp) := hR1.x.cell 4
  have gx4 := hR1.x.free 4
  have x5 : w1.cell? ⟨X, 5, none⟩ = some (.slice Ai x.items.length ci) := hR1.x.cell 5
  have gx5 := hR1.x.free 5
  have x6 : w1.cell? ⟨X, 6, none⟩ = some (.int .i64 x.ended) := hR1.x.cell 6
  have gx6 := hR1.x.free 6
  have x9 : w1.cell? ⟨X, 9, none⟩ = some (.int .i64 x.steps) := hR1.x.cell 9
  have gx9 := hR1.x.free 9
  have x11 : w1.cell? ⟨X, 11, none⟩ = some (.bool x.full) := hR1.x.cell 11
  have gx11 := hR1.x.free 11
  have x18 : w1.cell? ⟨X, 18, none⟩ = some (.bool true) := hR1.x.cell 18
  have gx18 := hR1.x.free 18
  have HR1 := hid hR1
  have hz1' : B ≤ (w1.alloc (.cells #[.int .u64 (z)] 35)).heap.size := Nat.le_trans hR1.bz (by simp)
  have hown1 : (w1.alloc (.cells #[.int .u64 (z)] 35)).ownsRow B 35 1 (.slice Ap x.pushed.length cp) x.pushed.length (u64V x.pushed) := hR1.rp.alloc _
  clear hR1
  go_wp2_with (at_builtin; refine wpList_app _ rfl (.tmp 59) (.tmp 61) 30 rfl B 35 i0 _ 1 8 Try.underlying30 hi hz0 hz1 hz2 rfl (by decide) _ _ _ rfl hown1 ⟨w1.heap.size, 0, none⟩ 1 1 [.int .u64 (z)] rfl rfl ?c1 ?c2 (by decide) ?c3 ?c4 ?c5 ?c6)
  case c1 => intro j' u hu; rw [addr_add0]; exact ((Blk.new w1 35 #[.int .u64 (z)]).cell j').trans (by simpa using hu)
  case c2 => intro u hu; simp at hu; subst hu; rfl
  case c3 => unfold maxLen; omega
  case c4 => omega
  case c5 => exact hz1'
  case c6 =>
    intro v' w2 hown2 hgrow2 hfresh2
    have hR2 := (HR1.out.keep ((Ch.refl (fun _ => False) w1).alloc (.cells #[.int .u64 (z)] 35))).appP (y := z) (by rw [u64V_snoc, List.length_append]; exact hown2) hgrow2 hfresh2
    obtain ⟨gp2, cp3, rfl, _, _, _, _⟩ := own_form hown2 (by omega)
    clear x0 gx0 x1 gx1 x3 gx3 x4 gx4 x5 gx5 x6 gx6 x9 gx9 x11 gx11 x18 gx18
    clear hown1 hown2 hgrow2 hfresh2 hz1'
    have x0 : w2.cell? ⟨X, 0, none⟩ = some (.pointer (some ⟨fb, 0, none⟩)) := hR2.x.cell 0
    have gx0 := hR2.x.free 0
    have x1 : w2.cell? ⟨X, 1, none⟩ = some (.pointer none) := hR2.x.cell 1
    have gx1 := hR2.x.free 1
    have x3 : w2.cell? ⟨X, 3, none⟩ = some (.int .i64 x.f.n) := hR2.x.cell 3
    have gx3 := hR2.x.free 3
    have x4 : w2.cell? ⟨X, 4, none⟩ = some (.slice Ap x.pushed.length cp) := hR2.x.cell 4
    have gx4 := hR2.x.free 4
    have x5 : w2.cell? ⟨X, 5, none⟩ = some (.slice Ai x.items.length ci) := hR2.x.cell 5
    have gx5 := hR2.x.free 5
    have x6 : w2.cell? ⟨X, 6, none⟩ = some (.int .i64 x.ended) := hR2.x.cell 6
    have gx6 := hR2.x.free 6
    have x9 : w2.cell? ⟨X, 9, none⟩ = some (.int .i64 x.steps) := hR2.x.cell 9
    have gx9 := hR2.x.free 9
    have x11 : w2.cell? ⟨X, 11, none⟩ = some (.bool x.full) := hR2.x.cell 11
    have gx11 := hR2.x.free 11
    have x18 : w2.cell? ⟨X, 18, none⟩ = some (.bool true) := hR2.x.cell 18
    have gx18 := hR2.x.free 18
    have HR2 := hid hR2
    clear hR2
    go_wp2_with fail
    refine calls_world fun w3 hw3 => ?_
    have hR3 := ((HR2.out.put 1 (.pointer (some ⟨qb, 0, none⟩))).put 9 (.int .i64 0)).put 4 (.slice (some ⟨gp2, 0, none⟩) (x.pushed.length + 1) cp3)
    rw [← hw3] at hR3
    clear x0 gx0 x1 gx1 x3 gx3 x4 gx4 x5 gx5 x6 gx6 x9 gx9 x11 gx11 x18 gx18
    clear hw3
    have x0 : w3.cell? ⟨X, 0, none⟩ = some (.pointer (some ⟨fb, 0, none⟩)) := hR3.x.cell 0
    have gx0 := hR3.x.free 0
    have x1 : w3.cell? ⟨X, 1, none⟩ = some (.pointer (some ⟨qb, 0, none⟩)) := hR3.x.cell 1
    have gx1 := hR3.x.free 1
    have x3 : w3.cell? ⟨X, 3, none⟩ = some (.int .i64 x.f.n) := hR3.x.cell 3
    have gx3 := hR3.x.free 3
    have x4 : w3.cell? ⟨X, 4, none⟩ = some (.slice (some ⟨gp2, 0, none⟩) (x.pushed.length + 1) cp3) := hR3.x.cell 4
    have gx4 := hR3.x.free 4
    have x5 : w3.cell? ⟨X, 5, none⟩ = some (.slice Ai x.items.length ci) := hR3.x.cell 5
    have gx5 := hR3.x.free 5
    have x6 : w3.cell? ⟨X, 6, none⟩ = some (.int .i64 x.ended) := hR3.x.cell 6
    have gx6 := hR3.x.free 6
    have x9 : w3.cell? ⟨X, 9, none⟩ = some (.int .i64 0) := hR3.x.cell 9
    have gx9 := hR3.x.free 9
    have x11 : w3.cell? ⟨X, 11, none⟩ = some (.bool x.full) := hR3.x.cell 11
    have gx11 := hR3.x.free 11
    have x18 : w3.cell? ⟨X, 18, none⟩ = some (.bool true) := hR3.x.cell 18
    have gx18 := hR3.x.free 18
    have HR3 := hid hR3
    clear hR3
    refine (pstep_any B p cb fb qb lv x.s _ ⟨1, 26, z, 0⟩ w3 HR3.out.fm (HR3.out.pp qb _ rfl).1 ⟨by show (0 : Int) ≤ 1; decide, by show (1 : Int) < 16; decide⟩ (by omega) HR3.out.bz ⟨by show 0 ≤ z; omega, by show z < _; omega⟩ (.inl rfl)).mono ?_
    rw [show pstep x.s { x.f with last := z, pushing := true } ⟨1, 26, z, 0⟩ = (x.s.load 1 x.f.first, 27, 0) from Ho.out]
    rintro e w4 ⟨rfl, lv1, hf4, hq4, hc4, hy4⟩
    have hR4 := HR3.out.pushed rfl hf4 hq4 hc4
    clear hf4 hq4 hc4 hy4
    clear x0 gx0 x1 gx1 x3 gx3 x4 gx4 x5 gx5 x6 gx6 x9 gx9 x11 gx11 x18 gx18
    have x0 : w4.cell? ⟨X, 0, none⟩ = some (.pointer (some ⟨fb, 0, none⟩)) := hR4.x.cell 0
    have gx0 := hR4.x.free 0
    have x1 : w4.cell? ⟨X, 1, none⟩ = some (.pointer (some ⟨qb, 0, none⟩)) := hR4.x.cell 1
    have gx1 := hR4.x.free 1
    have x3 : w4.cell? ⟨X, 3, none⟩ = some (.int .i64 x.f.n) := hR4.x.cell 3
    have gx3 := hR4.x.free 3
    have x4 : w4.cell? ⟨X, 4, none⟩ = some (.slice (some ⟨gp2, 0, none⟩) (x.pushed.length + 1) cp3) := hR4.x.cell 4
    have gx4 := hR4.x.free 4
    have x5 : w4.cell? ⟨X, 5, none⟩ = some (.slice Ai x.items.length ci) := hR4.x.cell 5
    have gx5 := hR4.x.free 5
    have x6 : w4.cell? ⟨X, 6, none⟩ = some (.int .i64 x.ended) := hR4.x.cell 6
    have gx6 := hR4.x.free 6
    have x9 : w4.cell? ⟨X, 9, none⟩ = some (.int .i64 0) := hR4.x.cell 9
    have gx9 := hR4.x.free 9
    have x11 : w4.cell? ⟨X, 11, none⟩ = some (.bool x.full) := hR4.x.cell 11
    have gx11 := hR4.x.free 11
    have x18 : w4.cell? ⟨X, 18, none⟩ = some (.bool true) := hR4.x.cell 18
    have gx18 := hR4.x.free 18
    have HR4a := hid hR4
    clear hR4
    go_wp2_with fail
    refine Mix.wp_region_mix (fun _ => True) (fun i => ([0, 0, 0, 0, 0, 0, 0, 0, 0, 0, 0, 0, 0, 0, 0] : List Nat).getD i 0) [0, 1, 2, 3, 4, 5, 6, 7, 8, 9, 10, 11, 12, 13, 14] (by kernel_rfl) (by kernel_rfl) ?_
    refine Mix.mix_world fun w2 hw2 => ?_
    have hR2 := HR4a.out.put 9 (.int .i64 1)
    rw [← hw2] at hR2
    clear x0 gx0 x1 gx1 x3 gx3 x4 gx4 x5 gx5 x6 gx6 x9 gx9 x11 gx11 x18 gx18
    clear hw2
    have x0 : w2.cell? ⟨X, 0, none⟩ = some (.pointer (some ⟨fb, 0, none⟩)) := hR2.x.cell 0
    have gx0 := hR2.x.free 0
    have x1 : w2.cell? ⟨X, 1, none⟩ = some (.pointer (some ⟨qb, 0, none⟩)) := hR2.x.cell 1
    have gx1 := hR2.x.free 1
    have x3 : w2.cell? ⟨X, 3, none⟩ = some (.int .i64 x.f.n) := hR2.x.cell 3
    have gx3 := hR2.x.free 3
    have x4 : w2.cell? ⟨X, 4, none⟩ = some (.slice (some ⟨gp2, 0, none⟩) (x.pushed.length + 1) cp3) := hR2.x.cell 4
    have gx4 := hR2.x.free 4
    have x5 : w2.cell? ⟨X, 5, none⟩ = some (.slice Ai x.items.length ci) := hR2.x.cell 5
    have gx5 := hR2.x.free 5
    have x6 : w2.cell? ⟨X, 6, none⟩ = some (.int .i64 x.ended) := hR2.x.cell 6
    have gx6 := hR2.x.free 6
    have x9 : w2.cell? ⟨X, 9, none⟩ = some (.int .i64 1) := hR2.x.cell 9
    have gx9 := hR2.x.free 9
    have x11 : w2.cell? ⟨X, 11, none⟩ = some (.bool x.full) := hR2.x.cell 11
    have gx11 := hR2.x.free 11
    have x18 : w2.cell? ⟨X, 18, none⟩ = some (.bool true) := hR2.x.cell 18
    have gx18 := hR2.x.free 18
    have HR2 := hid hR2
    clear hR2
    repeat (first | (refine Mix.mix_q (by simp only [List.getElem?_toArray, List.getElem?_cons_zero, List.getElem?_cons_succ]; exact rfl) rfl ?_; go_big_quiet_step (fail); refine wpQuiet_nil ?_) | (refine Mix.mix_p (by simp only [List.getElem?_toArray, List.getElem?_cons_zero, List.getElem?_cons_succ]; exact rfl) rfl rfl ?_; go_big_quiet_step (fail); refine wpQuiet_nil ?_))
    intro n2
    go_wp2_with fail
    refine Mix.wp_region_mix S (fun i => ([1, 0, 0, 0, 0, 0, 0, 0, 0, 0, 0, 0, 0, 0, 0, 0, 0, 3, 0, 1, 1, 1, 4, 0, 0, 0, 0, 2] : List Nat).getD i 0) [0, 1, 2, 3, 4, 5, 6, 7, 8, 9, 10, 11, 12, 13, 14, 15, 16, 19, 20, 21, 22, 17, 18, 23, 24, 25, 26, 27] (by kernel_rfl) (by kernel_rfl) ?_
    refine Mix.mix_world fun w3 hw3 => ?_
    have hR3 := HR2.out.drewN n2
    rw [← hw3] at hR3
    clear x0 gx0 x1 gx1 x3 gx3 x4 gx4 x5 gx5 x6 gx6 x9 gx9 x11 gx11 x18 gx18
    clear hw3
    have x0 : w3.cell? ⟨X, 0, none⟩ = some (.pointer (some ⟨fb, 0, none⟩)) := hR3.x.cell 0
    have gx0 := hR3.x.free 0
    have x1 : w3.cell? ⟨X, 1, none⟩ = some (.pointer (some ⟨qb, 0, none⟩)) := hR3.x.cell 1
    have gx1 := hR3.x.free 1
    have x3 : w3.cell? ⟨X, 3, none⟩ = some (.int .i64 x.f.n) := hR3.x.cell 3
    have gx3 := hR3.x.free 3
    have x4 : w3.cell? ⟨X, 4, none⟩ = some (.slice (some ⟨gp2, 0, none⟩) (x.pushed.length + 1) cp3) := hR3.x.cell 4
    have gx4 := hR3.x.free 4
    have x5 : w3.cell? ⟨X, 5, none⟩ = some (.slice Ai x.items.length ci) := hR3.x.cell 5
    have gx5 := hR3.x.free 5
    have x6 : w3.cell? ⟨X, 6, none⟩ = some (.int .i64 x.ended) := hR3.x.cell 6
    have gx6 := hR3.x.free 6
    have x9 : w3.cell? ⟨X, 9, none⟩ = some (.int .i64 1) := hR3.x.cell 9
    have gx9 := hR3.x.free 9
    have x11 : w3.cell? ⟨X, 11, none⟩ = some (.bool x.full) := hR3.x.cell 11
    have gx11 := hR3.x.free 11
    have x18 : w3.cell? ⟨X, 18, none⟩ = some (.bool true) := hR3.x.cell 18
    have gx18 := hR3.x.free 18
    have HR3 := hid hR3
    clear hR3
    repeat (first | (refine Mix.mix_q (by simp only [List.getElem?_toArray, List.getElem?_cons_zero, List.getElem?_cons_succ]; exact rfl) rfl ?_; go_big_quiet_step (fail); refine wpQuiet_nil ?_) | (refine Mix.mix_p (by simp only [List.getElem?_toArray, List.getElem?_cons_zero, List.getElem?_cons_succ]; exact rfl) rfl rfl ?_; go_big_quiet_step (fail); refine wpQuiet_nil ?_) | (refine Mix.mix_s (by simp only [List.getElem?_toArray, List.getElem?_cons_zero, List.getElem?_cons_succ]; exact rfl) rfl rfl ?_; go_big_quiet_step (fail); refine wpQuiet_nil ?_))
    refine Mix.mix_a (by simp only [List.getElem?_toArray, List.getElem?_cons_zero, List.getElem?_cons_succ]; exact rfl) rfl fun W4 hW4 => ?_
    obtain ⟨n4, rfl⟩ := hW4
    go_wp2_with fail
    refine (flist_any B p cb fb _ (x.s.load 1 x.f.first) _ _ (HR3.out.drewN n4).fm H T' HiH.out HiT.out HiL.out.1 HiL.out.2).mono ?_
    rintro e w4 ⟨v4, rfl, hrow4, hc4⟩
    rw [flist_length, show ((27 : Int) != 0) = true from rfl, HiF.out] at hrow4
    obtain ⟨a4, c4, rfl, _⟩ := own_slice hrow4
    have hc4' : Ch (fun _ => False) w3 w4 := hc4.ofDrewN
    have hkeep : Mix.Keep S w3 w4 := fun j hj => hc4'.block j (by rw [(HS.out j).1 hj]; exact HR3.out.x.lt) id
    have hR4 := HR3.out.keep hc4'
    clear x0 gx0 x1 gx1 x3 gx3 x4 gx4 x5 gx5 x6 gx6 x9 gx9 x11 gx11 x18 gx18
    have x0 : w4.cell? ⟨X, 0, none⟩ = some (.pointer (some ⟨fb, 0, none⟩)) := hR4.x.cell 0
    have gx0 := hR4.x.free 0
    have x1 : w4.cell? ⟨X, 1, none⟩ = some (.pointer (some ⟨qb, 0, none⟩)) := hR4.x.cell 1
    have gx1 := hR4.x.free 1
    have x3 : w4.cell? ⟨X, 3, none⟩ = some (.int .i64 x.f.n) := hR4.x.cell 3
    have gx3 := hR4.x.free 3
    have x4 : w4.cell? ⟨X, 4, none⟩ = some (.slice (some ⟨gp2, 0, none⟩) (x.pushed.length + 1) cp3) := hR4.x.cell 4
    have gx4 := hR4.x.free 4
    have x5 : w4.cell? ⟨X, 5, none⟩ = some (.slice Ai x.items.length ci) := hR4.x.cell 5
    have gx5 := hR4.x.free 5
    have x6 : w4.cell? ⟨X, 6, none⟩ = some (.int .i64 x.ended) := hR4.x.cell 6
    have gx6 := hR4.x.free 6
    have x9 : w4.cell? ⟨X, 9, none⟩ = some (.int .i64 1) := hR4.x.cell 9
    have gx9 := hR4.x.free 9
    have x11 : w4.cell? ⟨X, 11, none⟩ = some (.bool x.full) := hR4.x.cell 11
    have gx11 := hR4.x.free 11
    have x18 : w4.cell? ⟨X, 18, none⟩ = some (.bool true) := hR4.x.cell 18
    have gx18 := hR4.x.free 18
    have HR4 := hid hR4
    clear hR4 hc4 hc4' hrow4
    go_wp2_with fail
    refine ⟨hkeep, ?_⟩
    clear hkeep
    repeat (first | (refine Mix.mix_q (by simp only [List.getElem?_toArray, List.getElem?_cons_zero, List.getElem?_cons_succ]; exact rfl) rfl ?_; go_big_quiet_step (fail); refine wpQuiet_nil ?_) | (refine Mix.mix_p (by simp only [List.getElem?_toArray, List.getElem?_cons_zero, List.getElem?_cons_succ]; exact rfl) rfl rfl ?_; go_big_quiet_step (fail); refine wpQuiet_nil ?_) | (refine Mix.mix_s (by simp only [List.getElem?_toArray, List.getElem?_cons_zero, List.getElem?_cons_succ]; exact rfl) rfl rfl ?_; go_big_quiet_step (fail); refine wpQuiet_nil ?_))
    refine Mix.mix_e (by simp only [List.getElem?_toArray, List.getElem?_cons_zero, List.getElem?_cons_succ]; exact rfl) rfl fun W5 hW5 => ?_
    obtain ⟨n5, rfl⟩ := hW5
    go_wp2_with fail
    intro n6
    go_wp2_with fail
    go_ret
    refine ⟨rfl, ?_⟩
    have hE : Xs.stP { x with f := { x.f with last := z, pushing := true }, P := some ⟨1, 26, z, 0⟩, steps := 0, pushed := x.pushed ++ [z] } ⟨1, 26, z, 0⟩ = { x with s := x.s.load 1 x.f.first, f := Fd.psh { x.f with last := z, pushing := true } true, P := some ⟨1, 27, z, 0⟩, steps := 1, pushed := x.pushed ++ [z] } := by
      unfold Xs.stP
      simp only [show pstep x.s { x.f with last := z, pushing := true } ⟨1, 26, z, 0⟩ = (x.s.load 1 x.f.first, 27, 0) from Ho.out, show decide ((26 : Int) = 29) = false from rfl, Bool.false_and, Bool.or_false, show ((26 : Int) = 31) ↔ False from by simp, show ((27 : Int) = 0) ↔ False from by simp, if_false]
      rfl
    rw [hE]
    exact runX_mk (((HR4.out.drewN n5).put 18 (.bool true)).drewN n6) qb rb rfl rfl rfl rfl rfl rfl rfl (by rfl) rfl

set_option maxRecDepth 100000 in
set_option maxHeartbeats 2000000 in
theorem produce_beg1 (B p cb fb X : Nat) (x : Xs) (m H T a : Nat) (k : Int) (w0 w : World) (hI : Inv x m H T a) (hm : m < 1000) (hP : x.P = none) (hX : RunX B p cb fb X x w0 w) (hk : 0 ≤ k ∧ k ≤ 2) (hpos : 0 < x.pushed.length) :
    Calls Try.prog 15 #[.pointer (some ⟨X, 0, none⟩), .int .u64 k] w fun e w' => e = .returned (.bool true) ∧ RunX B p cb fb X ((x.begP k).stP ⟨1, 26, 1 + k + lastI x.pushed, 0⟩) w0 w' := by
  have hIb := inv_begP hI hP hk
  obtain ⟨T', hI', hfl, hsx⟩ := inv_stP hIb (by omega) rfl
  have hlP := hI.lastP
  have hlg := hI.lg
  have hn6 := hI.n1
  have hitl : x.items.length ≤ 2000 := by rw [hI.il]; have := hI.HT; omega
  have hpul : x.pushed.length ≤ 2000 := by have := hI.pm; omega
  have hend : x.ended ≤ 2000 := by have := hI.pl; rw [hP] at this; simp at this; omega
  have hpg : x.f.pushing = false := by rw [hI.fpr.1, hP]; rfl
  have hla : x.f.last < 1 + k + lastI x.pushed := by rw [hI.flast]; omega
  obtain ⟨lv, vp, vi, vg, vl, pb, rb, hR⟩ := hX
  rw [hP] at hR
  obtain ⟨z, hz⟩ : ∃ z, z = 1 + k + lastI x.pushed := ⟨_, rfl⟩
  have hzb : 0 < z ∧ z < 100000 := by omega
  have ho : pstep x.s (x.begP k).f ⟨1, 26, 1 + k + lastI x.pushed, 0⟩ = (x.s.load 1 x.f.first, 27, 0) := by
    unfold pstep; rw [if_pos rfl, if_neg (by rw [show cAct x.s (x.begP k).f = 1 from hI.act]; decide)]; rfl
  have HiH : Hid (cHead (x.s.load 1 x.f.first) ((x.begP k).f.psh true) = (H : Nat)) := hid (by have := hI'.hH; simp only [Xs.stP] at this; rw [show (x.begP k).s = x.s from rfl, ho] at this; exact this)
  have HiT : Hid (cTail (x.s.load 1 x.f.first) ((x.begP k).f.psh true) = (T' : Nat)) := hid (by have := hI'.hT; simp only [Xs.stP] at this; rw [show (x.begP k).s = x.s from rfl, ho] at this; exact this)
  have HiL : Hid (H ≤ T' ∧ T' ≤ 1000000) := hid (by have := hI'.HT; omega)
  obtain ⟨fl, hflen⟩ : ∃ fl : Nat, flen (x.s.load 1 x.f.first) ((x.begP k).f.psh true) = fl := ⟨_, rfl⟩
  have hfl' : fl ≤ x.f.n := by
    rw [show (x.begP k).s = x.s from rfl, ho] at hfl
    rw [← hflen]; exact hfl
  have HiF := hid hflen
  obtain ⟨i0, hi, hz0, hz1, hz2⟩ := info_parts Try.infoU64
  obtain ⟨gp, cp, hvp, _, hcl⟩ := row_last hR.rp rfl hpos
  subst hvp
  clear hfl hflen hI' hIb hI
  obtain ⟨Ai, ci, rfl, _⟩ := own_slice hR.ri
  obtain ⟨S, hS⟩ : ∃ S : Nat → Prop, ∀ k, S k ↔ k = X := ⟨_, fun _ => Iff.rfl⟩
  have hSp : Mix.Has S X := (hS _).2 rfl
  have HS := hid hS
  clear hS
  have hbN1 : decide ((fl : Int) ≤ (x.f.n : Int)) = true := by simp; omega
  have hbN2 : decide (fl ≤ x.f.n) = true := by simp; omega
  have HZk : Hid (1 + k + lastI x.pushed = z) := hid hz.symm
  have hgt : decide ((0 : Int) < (x.pushed.length : Int)) = true := decide_eq_true (by omega)
  have hgt2 : decide (0 < x.pushed.length) = true := decide_eq_true (by omega)
  have hwz : IntKind.u64.wrap (1 + k + lastI x.pushed) = 1 + k + lastI x.pushed := by rw [w64_wrap]; exact w64_small (by omega) (by omega)
  have hbeg : x.begP k = { x with f := { x.f with last := z, pushing := true }, P := some ⟨1, 26, z, 0⟩, steps := 0, pushed := x.pushed ++ [z] } := by unfold Xs.begP; rw [← hz]
  rw [hbeg, ← hz] at ho ⊢
  rw [hbeg] at HiH HiT HiF
  rw [← hz] at hla
  have x0 : w.cell? ⟨X, 0, none⟩ = some (.pointer (some ⟨fb, 0, none⟩)) := hR.x.cell 0
  have gx0 := hR.x.free 0
  have x1 : w.cell? ⟨X, 1, none⟩ = some (.pointer none) := hR.x.cell 1
  have gx1 := hR.x.free 1
  have x3 : w.cell? ⟨X, 3, none⟩ = some (.int .i64 x.f.n) := hR.x.cell 3
  have gx3 := hR.x.free 3
  have x4 : w.cell? ⟨X, 4, none⟩ = some (.slice (some ⟨gp, 0, none⟩) x.pushed.length cp) := hR.x.cell 4
  have gx4 := hR.x.free 4
  have x5 : w.cell? ⟨X, 5, none⟩ = some (.slice Ai x.items.length ci) := hR.x.cell 5
  have gx5 := hR.x.free 5
  have x6 : w.cell? ⟨X, 6, none⟩ = some (.int .i64 x.ended) := hR.x.cell 6
  have gx6 := hR.x.free 6
  have x9 : w.cell? ⟨X, 9, none⟩ = some (.int .i64 x.steps) := hR.x.cell 9
  have gx9 := hR.x.free 9
  have x11 : w.cell? ⟨X, 11, none⟩ = some (.bool x.full) := hR.x.cell 11
  have gx11 := hR.x.free 11
  have x18 : w.cell? ⟨X, 18, none⟩ = some (.bool true) := hR.x.cell 18
  have gx18 := hR.x.free 18
  have HR := hid hR
  have Ho := hid ho
  have HZ := hid hz
  have HP := hid hP
  have HPG := hid hpg
  clear hR ho hz hP hpg hbeg
  go_enter Try.func15, Try.ntmps15
  go_wp2_with fail
  go_quiet (fail)
  have HRb := hid (HR.out.drewN nq)
  go_wp2_with fail
  rw [HZk.out]
  refine (fpush_ok B p cb fb lv x.s x.f _ HRb.out.fm 1 (z) ⟨by decide, by decide⟩ hla HPG.out).mono ?_
  rintro e w1 ⟨qb, rfl, hf1, hq1, hc1, hqb⟩
  have hR1 := (HRb.out.fed hf1 hc1).setP (q := ⟨1, 26, z, 0⟩) (hq1) (Nat.le_trans HRb.out.bz hqb)
  clear hf1 hq1 hc1
  clear x0 gx0 x1 gx1 x3 gx3 x4 gx4 x5 gx5 x6 gx6 x9 gx9 x11 gx11 x18 gx18
  have x0 : w1.cell? ⟨X, 0, none⟩ = some (.pointer (some ⟨fb, 0, none⟩)) := hR1.x.cell 0
  have gx0 := hR1.x.free 0
  have x1 : w1.cell? ⟨X, 1, none⟩ = some (.pointer none) := hR1.x.cell 1
  have gx1 := hR1.x.free 1
  have x3 : w1.cell? ⟨X, 3, none⟩ = some (.int .i64 x.f.n) := hR1.x.cell 3
  have gx3 := hR1.x.free 3
  have x4 : w1.cell? ⟨X, 4, none⟩ = some (.slice (some ⟨gp, 0, none⟩) x.pushed.length cp) := hR1.x.cell 4
  have gx4 := hR1.x.free 4
  have x5 : w1.cell? ⟨X, 5, none⟩ = some (.slice Ai x.items.length ci) := hR1.x.cell 5
  have gx5 := hR1.x.free 5
  have x6 : w1.cell? ⟨X, 6, none⟩ = some (.int .i64 x.ended) := hR1.x.cell 6
  have gx6 := hR1.x.free 6
  have x9 : w1.cell? ⟨X, 9, none⟩ = some (.int .i64 x.steps) := hR1.x.cell 9
  have gx9 := hR1.x.free 9
  have x11 : w1.cell? ⟨X, 11, none⟩ = some (.bool x.full) := hR1.x.cell 11
  have gx11 := hR1.x.free 11
  have x18 : w1.cell? ⟨X, 18, none⟩ = some (.bool true) := hR1.x.cell 18
  have gx18 := hR1.x.free 18
  have HR1 := hid hR1
  have hz1' : B ≤ (w1.alloc (.cells #[.int .u64 (z)] 35)).heap.size := Nat.le_trans hR1.bz (by simp)
  have hown1 : (w1.alloc (.cells #[.int .u64 (z)] 35)).ownsRow B 35 1 (.slice (some ⟨gp, 0, none⟩) x.pushed.length cp) x.pushed.length (u64V x.pushed) := hR1.rp.alloc _
  clear hR1
  go_wp2_with (at_builtin; refine wpList_app _ rfl (.tmp 59) (.tmp 61) 30 rfl B 35 i0 _ 1 8 Try.underlying30 hi hz0 hz1 hz2 rfl (by decide) _ _ _ rfl hown1 ⟨w1.heap.size, 0, none⟩ 1 1 [.int .u64 (z)] rfl rfl ?c1 ?c2 (by decide) ?c3 ?c4 ?c5 ?c6)
  case c1 => intro j' u hu; rw [addr_add0]; exact ((Blk.new w1 35 #[.int .u64 (z)]).cell j').trans (by simpa using hu)
  case c2 => intro u hu; simp at hu; subst hu; rfl
  case c3 => unfold maxLen; omega
  case c4 => omega
  case c5 => exact hz1'
  case c6 =>
    intro v' w2 hown2 hgrow2 hfresh2
    have hR2 := (HR1.out.keep ((Ch.refl (fun _ => False) w1).alloc (.cells #[.int .u64 (z)] 35))).appP (y := z) (by rw [u64V_snoc, List.length_append]; exact hown2) hgrow2 hfresh2
    obtain ⟨gp2, cp3, rfl, _, _, _, _⟩ := own_form hown2 (by omega)
    clear x0 gx0 x1 gx1 x3 gx3 x4 gx4 x5 gx5 x6 gx6 x9 gx9 x11 gx11 x18 gx18
    clear hown1 hown2 hgrow2 hfresh2 hz1'
    have x0 : w2.cell? ⟨X, 0, none⟩ = some (.pointer (some ⟨fb, 0, none⟩)) := hR2.x.cell 0
    have gx0 := hR2.x.free 0
    have x1 : w2.cell? ⟨X, 1, none⟩ = some (.pointer none) := hR2.x.cell 1
    have gx1 := hR2.x.free 1
    have x3 : w2.cell? ⟨X, 3, none⟩ = some (.int .i64 x.f.n) := hR2.x.cell 3
    have gx3 := hR2.x.free 3
    have x4 : w2.cell? ⟨X, 4, none⟩ = some (.slice (some ⟨gp, 0, none⟩) x.pushed.length cp) := hR2.x.cell 4
    have gx4 := hR2.x.free 4
    have x5 : w2.cell? ⟨X, 5, none⟩ = some (.slice Ai x.items.length ci) := hR2.x.cell 5
    have gx5 := hR2.x.free 5
    have x6 : w2.cell? ⟨X, 6, none⟩ = some (.int .i64 x.ended) := hR2.x.cell 6
    have gx6 := hR2.x.free 6
    have x9 : w2.cell? ⟨X, 9, none⟩ = some (.int .i64 x.steps) := hR2.x.cell 9
    have gx9 := hR2.x.free 9
    have x11 : w2.cell? ⟨X, 11, none⟩ = some (.bool x.full) := hR2.x.cell 11
    have gx11 := hR2.x.free 11
    have x18 : w2.cell? ⟨X, 18, none⟩ = some (.bool true) := hR2.x.cell 18
    have gx18 := hR2.x.free 18
    have HR2 := hid hR2
    clear hR2
    go_wp2_with fail
    refine calls_world fun w3 hw3 => ?_
    have hR3 := ((HR2.out.put 1 (.pointer (some ⟨qb, 0, none⟩))).put 9 (.int .i64 0)).put 4 (.slice (some ⟨gp2, 0, none⟩) (x.pushed.length + 1) cp3)
    rw [← hw3] at hR3
    clear x0 gx0 x1 gx1 x3 gx3 x4 gx4 x5 gx5 x6 gx6 x9 gx9 x11 gx11 x18 gx18
    clear hw3
    have x0 : w3.cell? ⟨X, 0, none⟩ = some (.pointer (some ⟨fb, 0, none⟩)) := hR3.x.cell 0
    have gx0 := hR3.x.free 0
    have x1 : w3.cell? ⟨X, 1, none⟩ = some (.pointer (some ⟨qb, 0, none⟩)) := hR3.x.cell 1
    have gx1 := hR3.x.free 1
    have x3 : w3.cell? ⟨X, 3, none⟩ = some (.int .i64 x.f.n) := hR3.x.cell 3
    have gx3 := hR3.x.free 3
    have x4 : w3.cell? ⟨X, 4, none⟩ = some (.slice (some ⟨gp2, 0, none⟩) (x.pushed.length + 1) cp3) := hR3.x.cell 4
    have gx4 := hR3.x.free 4
    have x5 : w3.cell? ⟨X, 5, none⟩ = some (.slice Ai x.items.length ci) := hR3.x.cell 5
    have gx5 := hR3.x.free 5
    have x6 : w3.cell? ⟨X, 6, none⟩ = some (.int .i64 x.ended) := hR3.x.cell 6
    have gx6 := hR3.x.free 6
    have x9 : w3.cell? ⟨X, 9, none⟩ = some (.int .i64 0) := hR3.x.cell 9
    have gx9 := hR3.x.free 9
    have x11 : w3.cell? ⟨X, 11, none⟩ = some (.bool x.full) := hR3.x.cell 11
    have gx11 := hR3.x.free 11
    have x18 : w3.cell? ⟨X, 18, none⟩ = some (.bool true) := hR3.x.cell 18
    have gx18 := hR3.x.free 18
    have HR3 := hid hR3
    clear hR3
    refine (pstep_any B p cb fb qb lv x.s _ ⟨1, 26, z, 0⟩ w3 HR3.out.fm (HR3.out.pp qb _ rfl).1 ⟨by show (0 : Int) ≤ 1; decide, by show (1 : Int) < 16; decide⟩ (by omega) HR3.out.bz ⟨by show 0 ≤ z; omega, by show z < _; omega⟩ (.inl rfl)).mono ?_
    rw [show pstep x.s { x.f with last := z, pushing := true } ⟨1, 26, z, 0⟩ = (x.s.load 1 x.f.first, 27, 0) from Ho.out]
    rintro e w4 ⟨rfl, lv1, hf4, hq4, hc4, hy4⟩
    have hR4 := HR3.out.pushed rfl hf4 hq4 hc4
    clear hf4 hq4 hc4 hy4
    clear x0 gx0 x1 gx1 x3 gx3 x4 gx4 x5 gx5 x6 gx6 x9 gx9 x11 gx11 x18 gx18
    have x0 : w4.cell? ⟨X, 0, none⟩ = some (.pointer (some ⟨fb, 0, none⟩)) := hR4.x.cell 0
    have gx0 := hR4.x.free 0
    have x1 : w4.cell? ⟨X, 1, none⟩ = some (.pointer (some ⟨qb, 0, none⟩)) := hR4.x.cell 1
    have gx1 := hR4.x.free 1
    have x3 : w4.cell? ⟨X, 3, none⟩ = some (.int .i64 x.f.n) := hR4.x.cell 3
    have gx3 := hR4.x.free 3
    have x4 : w4.cell? ⟨X, 4, none⟩ = some (.slice (some ⟨gp2, 0, none⟩) (x.pushed.length + 1) cp3) := hR4.x.cell 4
    have gx4 := hR4.x.free 4
    have x5 : w4.cell? ⟨X, 5, none⟩ = some (.slice Ai x.items.length ci) := hR4.x.cell 5
    have gx5 := hR4.x.free 5
    have x6 : w4.cell? ⟨X, 6, none⟩ = some (.int .i64 x.ended) := hR4.x.cell 6
    have gx6 := hR4.x.free 6
    have x9 : w4.cell? ⟨X, 9, none⟩ = some (.int .i64 0) := hR4.x.cell 9
    have gx9 := hR4.x.free 9
    have x11 : w4.cell? ⟨X, 11, none⟩ = some (.bool x.full) := hR4.x.cell 11
    have gx11 := hR4.x.free 11
    have x18 : w4.cell? ⟨X, 18, none⟩ = some (.bool true) := hR4.x.cell 18
    have gx18 := hR4.x.free 18
    have HR4a := hid hR4
    clear hR4
    go_wp2_with fail
    refine Mix.wp_region_mix (fun _ => True) (fun i => ([0, 0, 0, 0, 0, 0, 0, 0, 0, 0, 0, 0, 0, 0, 0] : List Nat).getD i 0) [0, 1, 2, 3, 4, 5, 6, 7, 8, 9, 10, 11, 12, 13, 14] (by kernel_rfl) (by kernel_rfl) ?_
    refine Mix.mix_world fun w2 hw2 => ?_
    have hR2 := HR4a.out.put 9 (.int .i64 1)
    rw [← hw2] at hR2
    clear x0 gx0 x1 gx1 x3 gx3 x4 gx4 x5 gx5 x6 gx6 x9 gx9 x11 gx11 x18 gx18
    clear hw2
    have x0 : w2.cell? ⟨X, 0, none⟩ = some (.pointer (some ⟨fb, 0, none⟩)) := hR2.x.cell 0
    have gx0 := hR2.x.free 0
    have x1 : w2.cell? ⟨X, 1, none⟩ = some (.pointer (some ⟨qb, 0, none⟩)) := hR2.x.cell 1
    have gx1 := hR2.x.free 1
    have x3 : w2.cell? ⟨X, 3, none⟩ = some (.int .i64 x.f.n) := hR2.x.cell 3
    have gx3 := hR2.x.free 3
    have x4 : w2.cell? ⟨X, 4, none⟩ = some (.slice (some ⟨gp2, 0, none⟩) (x.pushed.length + 1) cp3) := hR2.x.cell 4
    have gx4 := hR2.x.free 4
    have x5 : w2.cell? ⟨X, 5, none⟩ = some (.slice Ai x.items.length ci) := hR2.x.cell 5
    have gx5 := hR2.x.free 5
    have x6 : w2.cell? ⟨X, 6, none⟩ = some (.int .i64 x.ended) := hR2.x.cell 6
    have gx6 := hR2.x.free 6
    have x9 : w2.cell? ⟨X, 9, none⟩ = some (.int .i64 1) := hR2.x.cell 9
    have gx9 := hR2.x.free 9
    have x11 : w2.cell? ⟨X, 11, none⟩ = some (.bool x.full) := hR2.x.cell 11
    have gx11 := hR2.x.free 11
    have x18 : w2.cell? ⟨X, 18, none⟩ = some (.bool true) := hR2.x.cell 18
    have gx18 := hR2.x.free 18
    have HR2 := hid hR2
    clear hR2
    repeat (first | (refine Mix.mix_q (by simp only [List.getElem?_toArray, List.getElem?_cons_zero, List.getElem?_cons_succ]; exact rfl) rfl ?_; go_big_quiet_step (fail); refine wpQuiet_nil ?_) | (refine Mix.mix_p (by simp only [List.getElem?_toArray, List.getElem?_cons_zero, List.getElem?_cons_succ]; exact rfl) rfl rfl ?_; go_big_quiet_step (fail); refine wpQuiet_nil ?_))
    intro n2
    go_wp2_with fail
    refine Mix.wp_region_mix S (fun i => ([1, 0, 0, 0, 0, 0, 0, 0, 0, 0, 0, 0, 0, 0, 0, 0, 0, 3, 0, 1, 1, 1, 4, 0, 0, 0, 0, 2] : List Nat).getD i 0) [0, 1, 2, 3, 4, 5, 6, 7, 8, 9, 10, 11, 12, 13, 14, 15, 16, 19, 20, 21, 22, 17, 18, 23, 24, 25, 26, 27] (by kernel_rfl) (by kernel_rfl) ?_
    refine Mix.mix_world fun w3 hw3 => ?_
    have hR3 := HR2.out.drewN n2
    rw [← hw3] at hR3
    clear x0 gx0 x1 gx1 x3 gx3 x4 gx4 x5 gx5 x6 gx6 x9 gx9 x11 gx11 x18 gx18
    clear hw3
    have x0 : w3.cell? ⟨X, 0, none⟩ = some (.pointer (some ⟨fb, 0, none⟩)) := hR3.x.cell 0
    have gx0 := hR3.x.free 0
    have x1 : w3.cell? ⟨X, 1, none⟩ = some (.pointer (some ⟨qb, 0, none⟩)) := hR3.x.cell 1
    have gx1 := hR3.x.free 1
    have x3 : w3.cell? ⟨X, 3, none⟩ = some (.int .i64 x.f.n) := hR3.x.cell 3
    have gx3 := hR3.x.free 3
    have x4 : w3.cell? ⟨X, 4, none⟩ = some (.slice (some ⟨gp2, 0, none⟩) (x.pushed.length + 1) cp3) := hR3.x.cell 4
    have gx4 := hR3.x.free 4
    have x5 : w3.cell? ⟨X, 5, none⟩ = some (.slice Ai x.items.length ci) := hR3.x.cell 5
    have gx5 := hR3.x.free 5
    have x6 : w3.cell? ⟨X, 6, none⟩ = some (.int .i64 x.ended) := hR3.x.cell 6
    have gx6 := hR3.x.free 6
    have x9 : w3.cell? ⟨X, 9, none⟩ = some (.int .i64 1) := hR3.x.cell 9
    have gx9 := hR3.x.free 9
    have x11 : w3.cell? ⟨X, 11, none⟩ = some (.bool x.full) := hR3.x.cell 11
    have gx11 := hR3.x.free 11
    have x18 : w3.cell? ⟨X, 18, none⟩ = some (.bool true) := hR3.x.cell 18
    have gx18 := hR3.x.free 18
    have HR3 := hid hR3
    clear hR3
    repeat (first | (refine Mix.mix_q (by simp only [List.getElem?_toArray, List.getElem?_cons_zero, List.getElem?_cons_succ]; exact rfl) rfl ?_; go_big_quiet_step (fail); refine wpQuiet_nil ?_) | (refine Mix.mix_p (by simp only [List.getElem?_toArray, List.getElem?_cons_zero, List.getElem?_cons_succ]; exact rfl) rfl rfl ?_; go_big_quiet_step (fail); refine wpQuiet_nil ?_) | (refine Mix.mix_s (by simp only [List.getElem?_toArray, List.getElem?_cons_zero, List.getElem?_cons_succ]; exact rfl) rfl rfl ?_; go_big_quiet_step (fail); refine wpQuiet_nil ?_))
    refine Mix.mix_a (by simp only [List.getElem?_toArray, List.getElem?_cons_zero, List.getElem?_cons_succ]; exact rfl) rfl fun W4 hW4 => ?_
    obtain ⟨n4, rfl⟩ := hW4
    go_wp2_with fail
    refine (flist_any B p cb fb _ (x.s.load 1 x.f.first) _ _ (HR3.out.drewN n4).fm H T' HiH.out HiT.out HiL.out.1 HiL.out.2).mono ?_
    rintro e w4 ⟨v4, rfl, hrow4, hc4⟩
    rw [flist_length, show ((27 : Int) != 0) = true from rfl, HiF.out] at hrow4
    obtain ⟨a4, c4, rfl, _⟩ := own_slice hrow4
    have hc4' : Ch (fun _ => False) w3 w4 := hc4.ofDrewN
    have hkeep : Mix.Keep S w3 w4 := fun j hj => hc4'.block j (by rw [(HS.out j).1 hj]; exact HR3.out.x.lt) id
    have hR4 := HR3.out.keep hc4'
    clear x0 gx0 x1 gx1 x3 gx3 x4 gx4 x5 gx5 x6 gx6 x9 gx9 x11 gx11 x18 gx18
    have x0 : w4.cell? ⟨X, 0, none⟩ = some (.pointer (some ⟨fb, 0, none⟩)) := hR4.x.cell 0
    have gx0 := hR4.x.free 0
    have x1 : w4.cell? ⟨X, 1, none⟩ = some (.pointer (some ⟨qb, 0, none⟩)) := hR4.x.cell 1
    have gx1 := hR4.x.free 1
    have x3 : w4.cell? ⟨X, 3, none⟩ = some (.int .i64 x.f.n) := hR4.x.cell 3
    have gx3 := hR4.x.free 3
    have x4 : w4.cell? ⟨X, 4, none⟩ = some (.slice (some ⟨gp2, 0, none⟩) (x.pushed.length + 1) cp3) := hR4.x.cell 4
    have gx4 := hR4.x.free 4
    have x5 : w4.cell? ⟨X, 5, none⟩ = some (.slice Ai x.items.length ci) := hR4.x.cell 5
    have gx5 := hR4.x.free 5
    have x6 : w4.cell? ⟨X, 6, none⟩ = some (.int .i64 x.ended) := hR4.x.cell 6
    have gx6 := hR4.x.free 6
    have x9 : w4.cell? ⟨X, 9, none⟩ = some (.int .i64 1) := hR4.x.cell 9
    have gx9 := hR4.x.free 9
    have x11 : w4.cell? ⟨X, 11, none⟩ = some (.bool x.full) := hR4.x.cell 11
    have gx11 := hR4.x.free 11
    have x18 : w4.cell? ⟨X, 18, none⟩ = some (.bool true) := hR4.x.cell 18
    have gx18 := hR4.x.free 18
    have HR4 := hid hR4
    clear hR4 hc4 hc4' hrow4
    go_wp2_with fail
    refine ⟨hkeep, ?_⟩
    clear hkeep
    repeat (first | (refine Mix.mix_q (by simp only [List.getElem?_toArray, List.getElem?_cons_zero, List.getElem?_cons_succ]; exact rfl) rfl ?_; go_big_quiet_step (fail); refine wpQuiet_nil ?_) | (refine Mix.mix_p (by simp only [List.getElem?_toArray, List.getElem?_cons_zero, List.getElem?_cons_succ]; exact rfl) rfl rfl ?_; go_big_quiet_step (fail); refine wpQuiet_nil ?_) | (refine Mix.mix_s (by simp only [List.getElem?_toArray, List.getElem?_cons_zero, List.getElem?_cons_succ]; exact rfl) rfl rfl ?_; go_big_quiet_step (fail); refine wpQuiet_nil ?_))
    refine Mix.mix_e (by simp only [List.getElem?_toArray, List.getElem?_cons_zero, List.getElem?_cons_succ]; exact rfl) rfl fun W5 hW5 => ?_
    obtain ⟨n5, rfl⟩ := hW5
    go_wp2_with fail
    intro n6
    go_wp2_with fail
    go_ret
    refine ⟨rfl, ?_⟩
    have hE : Xs.stP { x with f := { x.f with last := z, pushing := true }, P := some ⟨1, 26, z, 0⟩, steps := 0, pushed := x.pushed ++ [z] } ⟨1, 26, z, 0⟩ = { x with s := x.s.load 1 x.f.first, f := Fd.psh { x.f with last := z, pushing := true } true, P := some ⟨1, 27, z, 0⟩, steps := 1, pushed := x.pushed ++ [z] } := by
      unfold Xs.stP
      simp only [show pstep x.s { x.f with last := z, pushing := true } ⟨1, 26, z, 0⟩ = (x.s.load 1 x.f.first, 27, 0) from Ho.out, show decide ((26 : Int) = 29) = false from rfl, Bool.false_and, Bool.or_false, show ((26 : Int) = 31) ↔ False from by simp, show ((27 : Int) = 0) ↔ False from by simp, if_false]
      rfl
    rw [hE]
    exact runX_mk (((HR4.out.drewN n5).put 18 (.bool true)).drewN n6) qb rb rfl rfl rfl rfl rfl rfl rfl (by rfl) rfl

theorem produce_beg (B p cb fb X : Nat) (x : Xs) (m H T a : Nat) (k : Int) (w0 w : World) (hI : Inv x m H T a) (hm : m < 1000) (hP : x.P = none) (hX : RunX B p cb fb X x w0 w) (hk : 0 ≤ k ∧ k ≤ 2) :
    Calls Try.prog 15 #[.pointer (some ⟨X, 0, none⟩), .int .u64 k] w fun e w' => e = .returned (.bool true) ∧ RunX B p cb fb X ((x.begP k).stP ⟨1, 26, 1 + k + lastI x.pushed, 0⟩) w0 w' := by
  by_cases h : x.pushed.length = 0
  · exact produce_beg0 B p cb fb X x m H T a k w0 w hI hm hP hX hk h
  · exact produce_beg1 B p cb fb X x m H T a k w0 w hI hm hP hX hk (by omega)
end Go.Proofs.Ytonjbofdmmnpdaa
