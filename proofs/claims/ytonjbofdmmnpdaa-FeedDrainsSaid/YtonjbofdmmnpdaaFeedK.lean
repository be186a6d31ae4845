/- The feed's run: a number is got. -/
import Derived.Test.YtonjbofdmmnpdaaFeedJ
import Derived.Test.YtonjbofdmmnpdaaMixT
namespace Go.Proofs.Ytonjbofdmmnpdaa
open Go.RowKit
set_option linter.unusedVariables false
set_option linter.unusedSimpArgs false
set_option linter.unusedSectionVars false

theorem boolV_snoc (l : List Bool) (y : Bool) : boolV (l ++ [y]) = boolV l ++ [.bool y] := by simp [boolV]
theorem Try.infoBool : (Try.prog.info? 4).map (fun i => (i.zero, i.size, i.bytes)) = some (some (.bool false), 1, 1) := by kernel_rfl
theorem row_cell {w : World} {B n : Nat} {g cap : Nat} {l : List Int} (h : w.ownsRow B 35 1 (.slice (some ⟨g, 0, none⟩) n cap) n (u64V l)) (hn : l.length = n) (k : Nat) (hk : k < n) : w.cell? ⟨g, k, none⟩ = some (.int .u64 (lk l k)) := by
  have := h.cells (g := g) rfl k (.int .u64 (lk l k)) (u64V_get l k (by omega))
  rwa [addr_add0] at this
def lb (l : List Bool) (i : Nat) : Bool := l.getD i false
theorem row_cellB {w : World} {B n n' : Nat} {g cap : Nat} {l : List Bool} (h : w.ownsRow B 4 1 (.slice (some ⟨g, 0, none⟩) n' cap) n (boolV l)) (hn : l.length = n) (k : Nat) (hk : k < n) : w.cell? ⟨g, k, none⟩ = some (.bool (lb l k)) := by
  have := h.cells (g := g) rfl k (.bool (lb l k)) (by simp [boolV, lb, hn, hk])
  rwa [addr_add0] at this
theorem nolag_take (l : List Bool) (k : Nat) (h : k < l.length) : nolag (l.take (k + 1)) = nolag (l.take k) + if lb l k then 0 else 1 := by
  rw [List.take_succ_eq_append_getElem h, nolag_snoc]
  simp [lb, h]
theorem nolag_le (l : List Bool) : nolag l ≤ l.length := by
  induction l with
  | nil => simp [nolag]
  | cons b l ih => simp only [nolag, List.length_cons]; split <;> omega


set_option maxRecDepth 100000 in
set_option maxHeartbeats 2000000 in
theorem got_f0 (B p cb fb X : Nat) (x : Xs) (v : Int) (at_ H T : Nat) (w0 w : World) (hX : RunX B p cb fb X x w0 w) (hlen : x.pushed.length ≤ 2000 ∧ x.items.length ≤ 2000 ∧ x.got.length ≤ 2000 ∧ x.lags.length ≤ 2000)
    (hHT : cHead x.s x.f = (H : Nat) ∧ cTail x.s x.f = (T : Nat) ∧ H ≤ T ∧ T ≤ 1000000) (hv : lastI x.got < v) (hpl : placeOf x.pushed v x.pushed.length = at_) (hat : at_ < x.pushed.length) (h0 : at_ = 0) (hg0 : x.got.length = 0) :
    Calls Try.prog 19 #[.pointer (some ⟨X, 0, none⟩), .int .u64 v, .bool false] w fun e w' => e = .returned (.tuple #[]) ∧ RunX B p cb fb X (x.gotV v false) w0 w' := by
  obtain ⟨lv, vp, vi, vg, vl, pb, rb, hR⟩ := hX
  obtain ⟨i0, hi, hz0, hz1, hz2⟩ := info_parts Try.infoU64
  obtain ⟨j0, hj, hy0, hy1, hy2⟩ := info_parts Try.infoBool
  obtain ⟨gp, cp, rfl, _, _, _, _⟩ := own_form hR.rp (by omega)
  obtain ⟨Ai, ci, rfl, _⟩ := own_slice hR.ri
  obtain ⟨Ag, cg, rfl, _⟩ := own_slice hR.rg
  obtain ⟨Al, cl, rfl, _⟩ := own_slice hR.rl
  obtain ⟨S, hS⟩ : ∃ S : Nat → Prop, ∀ k, S k ↔ k = X := ⟨_, fun _ => Iff.rfl⟩
  have hSp : Mix.Has S X := (hS _).2 rfl
  have HS := hid hS
  clear hS
  have hr := row_cell hR.rp rfl
  obtain ⟨hl1, hl2, hl3, hl4⟩ := hlen
  have hga : decide ((0 : Int) ≤ (at_ : Int)) = true := decide_eq_true (by omega)
  have hga2 : decide ((at_ : Int) ≥ 0) = true := decide_eq_true (by omega)
  have hgv : decide (lastI x.got < v) = true := decide_eq_true hv
  have hq1 : ((at_ : Int) == 0) = true := by rw [beq_iff_eq]; omega
  have hq2 : ((x.got.length : Int) == 0) = true := by rw [beq_iff_eq]; omega
  clear h0 hg0
  have x0 : w.cell? ⟨X, 0, none⟩ = some (.pointer (some ⟨fb, 0, none⟩)) := hR.x.cell 0
  have gx0 := hR.x.free 0
  have x4 : w.cell? ⟨X, 4, none⟩ = some (.slice (some ⟨gp, 0, none⟩) x.pushed.length cp) := hR.x.cell 4
  have gx4 := hR.x.free 4
  have x5 : w.cell? ⟨X, 5, none⟩ = some (.slice Ai x.items.length ci) := hR.x.cell 5
  have gx5 := hR.x.free 5
  have x7 : w.cell? ⟨X, 7, none⟩ = some (.slice Ag x.got.length cg) := hR.x.cell 7
  have gx7 := hR.x.free 7
  have x8 : w.cell? ⟨X, 8, none⟩ = some (.slice Al x.lags.length cl) := hR.x.cell 8
  have gx8 := hR.x.free 8
  have x11 : w.cell? ⟨X, 11, none⟩ = some (.bool x.full) := hR.x.cell 11
  have gx11 := hR.x.free 11
  have x14 : w.cell? ⟨X, 14, none⟩ = some (.bool true) := hR.x.cell 14
  have gx14 := hR.x.free 14
  have x15 : w.cell? ⟨X, 15, none⟩ = some (.bool true) := hR.x.cell 15
  have gx15 := hR.x.free 15
  have x16 : w.cell? ⟨X, 16, none⟩ = some (.bool true) := hR.x.cell 16
  have gx16 := hR.x.free 16
  have HR := hid hR
  have Hr := hid hr
  clear hR hr
  go_enter Try.func19, Try.ntmps19
  go_wp2_with fail
  refine (last_any B X _ x.got w x7 HR.out.rg (by omega)).mono ?_
  rintro e w1 ⟨rfl, n1, rfl⟩
  go_wp2_with fail
  go_loopw [7, 8] (fun t i wr => ∃ k : Nat, k ≤ x.pushed.length ∧ i = .int .i64 k ∧ t = .int .i64 (placeOf x.pushed v k) ∧ ∃ d, wr = w.drewN d) (fun _ i _ => x.pushed.length - (intOf i).toNat)
  case atStart => exact ⟨0, Nat.zero_le _, rfl, rfl, n1, rfl⟩
  case round =>
    obtain ⟨k, hk, rfl, rfl, d, rfl⟩ := hrel
    by_cases hlt : k < x.pushed.length
    · have hc := Hr.out k hlt
      have hk1 : decide ((k : Int) < (x.pushed.length : Int)) = true := decide_eq_true (by omega)
      have hk2 : decide (k < x.pushed.length) = true := decide_eq_true hlt
      by_cases he : lk x.pushed k = v
      · have hpk : placeOf x.pushed v (k + 1) = k := by unfold placeOf; rw [if_pos he]
        have hbe : (lk x.pushed k == v) = true := by rw [beq_iff_eq]; exact he
        have Hpk := hid hpk
        clear he hpk
        go_wp2_with fail
        go_roundw
        case rel => exact ⟨k + 1, by omega, by go_num, by rw [Hpk.out], _, rfl⟩
        case measure => simp [intOf]; omega
      · have hpk : placeOf x.pushed v (k + 1) = placeOf x.pushed v k := by rw [placeOf, if_neg he]
        have hbe : (lk x.pushed k == v) = false := by rw [beq_eq_false_iff_ne]; exact he
        have Hpk := hid hpk
        clear he hpk
        go_wp2_with fail
        go_roundw
        case rel => exact ⟨k + 1, by omega, by go_num, by rw [Hpk.out], _, rfl⟩
        case measure => simp [intOf]; omega
    · have hkn : k = x.pushed.length := by omega
      subst hkn
      have hk1 : decide ((x.pushed.length : Int) < (x.pushed.length : Int)) = false := decide_eq_false (by omega)
      rw [hpl]
      go_wp2_with fail
      refine Mix.wp_region_X S (fun i => ([1, 1, 1, 1, 1, 4, 1, 3, 3, 1, 1, 1, 4, 1, 3, 3, 0, 0, 2, 0, 0, 2] : List Nat).getD i 0) (by kernel_rfl) ?_
      refine Mix.wpX_world fun w5 hw5 => ?_
      have hR5 := ((HR.out.drewN d).put 14 (.bool true)).put 15 (.bool true)
      rw [← hw5] at hR5
      clear x0 gx0 x4 gx4 x5 gx5 x7 gx7 x8 gx8 x11 gx11 x14 gx14 x15 gx15 x16 gx16
      clear hw5
      have x0 : w5.cell? ⟨X, 0, none⟩ = some (.pointer (some ⟨fb, 0, none⟩)) := hR5.x.cell 0
      have gx0 := hR5.x.free 0
      have x4 : w5.cell? ⟨X, 4, none⟩ = some (.slice (some ⟨gp, 0, none⟩) x.pushed.length cp) := hR5.x.cell 4
      have gx4 := hR5.x.free 4
      have x5 : w5.cell? ⟨X, 5, none⟩ = some (.slice Ai x.items.length ci) := hR5.x.cell 5
      have gx5 := hR5.x.free 5
      have x7 : w5.cell? ⟨X, 7, none⟩ = some (.slice Ag x.got.length cg) := hR5.x.cell 7
      have gx7 := hR5.x.free 7
      have x8 : w5.cell? ⟨X, 8, none⟩ = some (.slice Al x.lags.length cl) := hR5.x.cell 8
      have gx8 := hR5.x.free 8
      have x11 : w5.cell? ⟨X, 11, none⟩ = some (.bool x.full) := hR5.x.cell 11
      have gx11 := hR5.x.free 11
      have x14 : w5.cell? ⟨X, 14, none⟩ = some (.bool true) := hR5.x.cell 14
      have gx14 := hR5.x.free 14
      have x15 : w5.cell? ⟨X, 15, none⟩ = some (.bool true) := hR5.x.cell 15
      have gx15 := hR5.x.free 15
      have x16 : w5.cell? ⟨X, 16, none⟩ = some (.bool true) := hR5.x.cell 16
      have gx16 := hR5.x.free 16
      have HR5 := hid hR5
      clear hR5
      refine Mix.wpX_prefix (fuel := 10) (by kernel_rfl) [0, 1, 2, 3, 4, 5, 6, 9, 10, 11, 12, 13] _ _ _ (by kernel_rfl) ?_
      repeat (first | (refine Mix.mix_q (by simp only [List.getElem?_toArray, List.getElem?_cons_zero, List.getElem?_cons_succ]; exact rfl) rfl ?_; go_big_quiet_step (fail); refine wpQuiet_nil ?_) | (refine Mix.mix_p (by simp only [List.getElem?_toArray, List.getElem?_cons_zero, List.getElem?_cons_succ]; exact rfl) rfl rfl ?_; go_big_quiet_step (fail); refine wpQuiet_nil ?_) | (refine Mix.mix_s (by simp only [List.getElem?_toArray, List.getElem?_cons_zero, List.getElem?_cons_succ]; exact rfl) rfl rfl ?_; go_big_quiet_step (fail); refine wpQuiet_nil ?_))
      intro f0
      refine Mix.wpX_world fun w6 hw6 => ?_
      have HR6 := hid (show RunW _ _ _ _ _ _ _ _ _ _ _ _ _ _ _ _ _ _ _ _ w6 by rw [hw6]; exact HR5.out.drewN f0)
      clear x0 gx0 x4 gx4 x5 gx5 x7 gx7 x8 gx8 x11 gx11 x14 gx14 x15 gx15 x16 gx16
      clear hw6 HR5
      refine Mix.wpX_two 7 14 (by kernel_rfl) ?_ ?_
      · refine Mix.mix_a (by simp only [List.getElem?_toArray, List.getElem?_cons_zero, List.getElem?_cons_succ]; exact rfl) rfl fun W1 hW1 => ?_
        obtain ⟨a1, rfl⟩ := hW1
        go_wp2_with fail
        refine ⟨fun j hj => Below.heap_alloc _ _ j (by rw [(HS.out j).1 hj]; exact HR6.out.x.lt), ?_⟩
        intro m1
        refine Mix.wpX_world fun u1 hu1 => ?_
        have c1 : Ch (fun _ => False) w6 u1 := by rw [hu1]; exact (((Ch.refl _ w6).drewN a1).alloc _).drewN m1
        have t7_1 : Blk u1 w6.heap.size 35 #[.int .u64 v] := by rw [hu1]; exact (Blk.new (w6.drewN a1) _ _).drewN m1
        have Hu1 := hid (HR6.out.keep c1)
        clear hu1 c1
        refine Mix.wpX_two 8 14 (by kernel_rfl) ?_ ?_
        · refine Mix.mix_a (by simp only [List.getElem?_toArray, List.getElem?_cons_zero, List.getElem?_cons_succ]; exact rfl) rfl fun W2 hW2 => ?_
          obtain ⟨a2, rfl⟩ := hW2
          have z2 := Hu1.out.bz
          refine wpList_app _ rfl _ _ 30 rfl B 35 i0 _ 1 8 Try.underlying30 hi hz0 hz1 hz2 rfl (by decide) _ _ _ rfl (Hu1.out.drewN a2).rg ⟨w6.heap.size, 0, none⟩ 1 1 [.int .u64 v] rfl rfl (fun j' u' hu => by rw [addr_add0]; exact ((t7_1.drewN a2).cell j').trans (by simpa using hu)) (fun u' hu => by simp at hu; subst hu; rfl) (by decide) (by unfold maxLen; omega) (by omega) z2 ?_
          intro v2 p2 hown2 hgrow2 hfresh2
          have r2 := (Hu1.out.drewN a2).appG (y := v) (by rw [u64V_snoc, List.length_append]; exact hown2) hgrow2 hfresh2
          have hkeep2 : Mix.Keep S u1 p2 := fun j hj => by rw [(HS.out j).1 hj]; exact r2.x.trans Hu1.out.x.symm
          obtain ⟨gg, cg2, rfl, _, _, _, _⟩ := own_form hown2 (by omega)
          have R2 := hid r2
          clear r2 hown2 hgrow2 hfresh2 z2 t7_1
          go_wp2_with fail
          refine ⟨hkeep2, ?_⟩
          clear hkeep2
          intro m2
          refine Mix.wpX_world fun u2 hu2 => ?_
          have Hu2 := hid (show RunW _ _ _ _ _ _ _ _ _ _ _ _ _ _ _ _ _ _ _ _ u2 by rw [hu2]; exact R2.out.drewN m2)
          clear hu2 R2
          refine Mix.wpX_prefix (fuel := 7) (by kernel_rfl) [14] _ _ _ (by kernel_rfl) ?_
          refine Mix.mix_a (by simp only [List.getElem?_toArray, List.getElem?_cons_zero, List.getElem?_cons_succ]; exact rfl) rfl fun W3 hW3 => ?_
          obtain ⟨a3, rfl⟩ := hW3
          go_wp2_with fail
          refine ⟨fun j hj => Below.heap_alloc _ _ j (by rw [(HS.out j).1 hj]; exact Hu2.out.x.lt), ?_⟩
          intro m3
          refine Mix.wpX_world fun u3 hu3 => ?_
          have c3 : Ch (fun _ => False) u2 u3 := by rw [hu3]; exact (((Ch.refl _ u2).drewN a3).alloc _).drewN m3
          have t14_3 : Blk u3 u2.heap.size 4 #[.bool false] := by rw [hu3]; exact (Blk.new (u2.drewN a3) _ _).drewN m3
          have Hu3 := hid (Hu2.out.keep c3)
          clear hu3 c3
          refine Mix.wpX_prefix (fuel := 6) (by kernel_rfl) [15] _ _ _ (by kernel_rfl) ?_
          refine Mix.mix_a (by simp only [List.getElem?_toArray, List.getElem?_cons_zero, List.getElem?_cons_succ]; exact rfl) rfl fun W4 hW4 => ?_
          obtain ⟨a4, rfl⟩ := hW4
          have z4 := Hu3.out.bz
          refine wpList_app _ rfl _ _ 31 rfl B 4 j0 _ 1 1 Try.underlying31 hj hy0 hy1 hy2 rfl (by decide) _ _ _ rfl (Hu3.out.drewN a4).rl ⟨u2.heap.size, 0, none⟩ 1 1 [.bool false] rfl rfl (fun j' u' hu => by rw [addr_add0]; exact ((t14_3.drewN a4).cell j').trans (by simpa using hu)) (fun u' hu => by simp at hu; subst hu; rfl) (by decide) (by unfold maxLen; omega) (by omega) z4 ?_
          intro v4 p4 hown4 hgrow4 hfresh4
          have r4 := (Hu3.out.drewN a4).appL (y := false) (by rw [boolV_snoc, List.length_append]; exact hown4) hgrow4 hfresh4
          have hkeep4 : Mix.Keep S u3 p4 := fun j hj => by rw [(HS.out j).1 hj]; exact r4.x.trans Hu3.out.x.symm
          obtain ⟨gl, cl2, rfl, _, _, _, _⟩ := own_form hown4 (by omega)
          have R4 := hid r4
          clear r4 hown4 hgrow4 hfresh4 z4 t14_3
          go_wp2_with fail
          refine ⟨hkeep4, ?_⟩
          clear hkeep4
          intro m4
          refine Mix.wpX_world fun u4 hu4 => ?_
          have Hu4 := hid (show RunW _ _ _ _ _ _ _ _ _ _ _ _ _ _ _ _ _ _ _ _ u4 by rw [hu4]; exact R4.out.drewN m4)
          clear hu4 R4
          refine Mix.wpX_prefix (fuel := 0) (by kernel_rfl) [16, 17, 18, 19, 20, 21] _ _ _ (by kernel_rfl) ?_
          have y7 : u4.cell? ⟨X, 7, none⟩ = some (.slice Ag x.got.length cg) := Hu4.out.x.cell 7
          have gy7 := Hu4.out.x.free 7
          have y8 : u4.cell? ⟨X, 8, none⟩ = some (.slice Al x.lags.length cl) := Hu4.out.x.cell 8
          have gy8 := Hu4.out.x.free 8
          iterate 2 (refine Mix.mix_q (by simp only [List.getElem?_toArray, List.getElem?_cons_zero, List.getElem?_cons_succ]; exact rfl) rfl ?_; go_big_quiet_step (fail); refine wpQuiet_nil ?_)
          refine Mix.mix_e (by simp only [List.getElem?_toArray, List.getElem?_cons_zero, List.getElem?_cons_succ]; exact rfl) rfl fun Y1 hY1 => ?_
          obtain ⟨e1, rfl⟩ := hY1
          go_wp2_with fail
          iterate 2 (refine Mix.mix_q (by simp only [List.getElem?_toArray, List.getElem?_cons_zero, List.getElem?_cons_succ]; exact rfl) rfl ?_; go_big_quiet_step (fail); refine wpQuiet_nil ?_)
          refine Mix.mix_e (by simp only [List.getElem?_toArray, List.getElem?_cons_zero, List.getElem?_cons_succ]; exact rfl) rfl fun Y2 hY2 => ?_
          obtain ⟨e2, rfl⟩ := hY2
          go_wp2_with fail
          intro e3
          refine Mix.wpX_done (by kernel_rfl) ?_
          intro e4
          go_wp2_with fail
          go_end0
          refine ⟨rfl, ?_⟩
          exact runX_mk (x := x.gotV v false) (((((((Hu4.out.drewN e1).put 7 (.slice (some ⟨gg, 0, none⟩) (x.got.length + 1) cg2)).drewN e2).put 8 (.slice (some ⟨gl, 0, none⟩) (x.lags.length + 1) cl2)).drewN e3).drewN e4)) pb rb rfl rfl (by simp [xCells, Xs.gotV]) rfl rfl rfl rfl rfl rfl
        · refine Mix.mix_a (by simp only [List.getElem?_toArray, List.getElem?_cons_zero, List.getElem?_cons_succ]; exact rfl) rfl fun W5 hW5 => ?_
          obtain ⟨a5, rfl⟩ := hW5
          go_wp2_with fail
          refine ⟨fun j hj => Below.heap_alloc _ _ j (by rw [(HS.out j).1 hj]; exact Hu1.out.x.lt), ?_⟩
          intro m5
          refine Mix.wpX_world fun u5 hu5 => ?_
          have c5 : Ch (fun _ => False) u1 u5 := by rw [hu5]; exact (((Ch.refl _ u1).drewN a5).alloc _).drewN m5
          have t14_5 : Blk u5 u1.heap.size 4 #[.bool false] := by rw [hu5]; exact (Blk.new (u1.drewN a5) _ _).drewN m5
          have Hu5 := hid (Hu1.out.keep c5)
          have t7_5 := c5.blk t7_1 id
          clear hu5 c5
          refine Mix.wpX_prefix (fuel := 7) (by kernel_rfl) [8] _ _ _ (by kernel_rfl) ?_
          refine Mix.mix_a (by simp only [List.getElem?_toArray, List.getElem?_cons_zero, List.getElem?_cons_succ]; exact rfl) rfl fun W6 hW6 => ?_
          obtain ⟨a6, rfl⟩ := hW6
          have z6 := Hu5.out.bz
          refine wpList_app _ rfl _ _ 30 rfl B 35 i0 _ 1 8 Try.underlying30 hi hz0 hz1 hz2 rfl (by decide) _ _ _ rfl (Hu5.out.drewN a6).rg ⟨w6.heap.size, 0, none⟩ 1 1 [.int .u64 v] rfl rfl (fun j' u' hu => by rw [addr_add0]; exact ((t7_5.drewN a6).cell j').trans (by simpa using hu)) (fun u' hu => by simp at hu; subst hu; rfl) (by decide) (by unfold maxLen; omega) (by omega) z6 ?_
          intro v6 p6 hown6 hgrow6 hfresh6
          have r6 := (Hu5.out.drewN a6).appG (y := v) (by rw [u64V_snoc, List.length_append]; exact hown6) hgrow6 hfresh6
          have hkeep6 : Mix.Keep S u5 p6 := fun j hj => by rw [(HS.out j).1 hj]; exact r6.x.trans Hu5.out.x.symm
          have tq6 := (t14_5.drewN a6).grown hgrow6 ((t14_5.drewN a6).own (Hu5.out.drewN a6).rg (by decide))
          obtain ⟨gg, cg2, rfl, _, _, _, _⟩ := own_form hown6 (by omega)
          have R6 := hid r6
          clear r6 hown6 hgrow6 hfresh6 z6 t7_5
          go_wp2_with fail
          refine ⟨hkeep6, ?_⟩
          clear hkeep6
          intro m6
          refine Mix.wpX_world fun u6 hu6 => ?_
          have Hu6 := hid (show RunW _ _ _ _ _ _ _ _ _ _ _ _ _ _ _ _ _ _ _ _ u6 by rw [hu6]; exact R6.out.drewN m6)
          have t14_6 : Blk u6 u1.heap.size 4 #[.bool false] := by rw [hu6]; exact tq6.drewN m6
          clear tq6
          clear hu6 R6
          refine Mix.wpX_prefix (fuel := 6) (by kernel_rfl) [15] _ _ _ (by kernel_rfl) ?_
          refine Mix.mix_a (by simp only [List.getElem?_toArray, List.getElem?_cons_zero, List.getElem?_cons_succ]; exact rfl) rfl fun W7 hW7 => ?_
          obtain ⟨a7, rfl⟩ := hW7
          have z7 := Hu6.out.bz
          refine wpList_app _ rfl _ _ 31 rfl B 4 j0 _ 1 1 Try.underlying31 hj hy0 hy1 hy2 rfl (by decide) _ _ _ rfl (Hu6.out.drewN a7).rl ⟨u1.heap.size, 0, none⟩ 1 1 [.bool false] rfl rfl (fun j' u' hu => by rw [addr_add0]; exact ((t14_6.drewN a7).cell j').trans (by simpa using hu)) (fun u' hu => by simp at hu; subst hu; rfl) (by decide) (by unfold maxLen; omega) (by omega) z7 ?_
          intro v7 p7 hown7 hgrow7 hfresh7
          have r7 := (Hu6.out.drewN a7).appL (y := false) (by rw [boolV_snoc, List.length_append]; exact hown7) hgrow7 hfresh7
          have hkeep7 : Mix.Keep S u6 p7 := fun j hj => by rw [(HS.out j).1 hj]; exact r7.x.trans Hu6.out.x.symm
          obtain ⟨gl, cl2, rfl, _, _, _, _⟩ := own_form hown7 (by omega)
          have R7 := hid r7
          clear r7 hown7 hgrow7 hfresh7 z7 t14_6
          go_wp2_with fail
          refine ⟨hkeep7, ?_⟩
          clear hkeep7
          intro m7
          refine Mix.wpX_world fun u7 hu7 => ?_
          have Hu7 := hid (show RunW _ _ _ _ _ _ _ _ _ _ _ _ _ _ _ _ _ _ _ _ u7 by rw [hu7]; exact R7.out.drewN m7)
          clear hu7 R7
          refine Mix.wpX_prefix (fuel := 0) (by kernel_rfl) [16, 17, 18, 19, 20, 21] _ _ _ (by kernel_rfl) ?_
          have y7 : u7.cell? ⟨X, 7, none⟩ = some (.slice Ag x.got.length cg) := Hu7.out.x.cell 7
          have gy7 := Hu7.out.x.free 7
          have y8 : u7.cell? ⟨X, 8, none⟩ = some (.slice Al x.lags.length cl) := Hu7.out.x.cell 8
          have gy8 := Hu7.out.x.free 8
          iterate 2 (refine Mix.mix_q (by simp only [List.getElem?_toArray, List.getElem?_cons_zero, List.getElem?_cons_succ]; exact rfl) rfl ?_; go_big_quiet_step (fail); refine wpQuiet_nil ?_)
          refine Mix.mix_e (by simp only [List.getElem?_toArray, List.getElem?_cons_zero, List.getElem?_cons_succ]; exact rfl) rfl fun Y1 hY1 => ?_
          obtain ⟨e1, rfl⟩ := hY1
          go_wp2_with fail
          iterate 2 (refine Mix.mix_q (by simp only [List.getElem?_toArray, List.getElem?_cons_zero, List.getElem?_cons_succ]; exact rfl) rfl ?_; go_big_quiet_step (fail); refine wpQuiet_nil ?_)
          refine Mix.mix_e (by simp only [List.getElem?_toArray, List.getElem?_cons_zero, List.getElem?_cons_succ]; exact rfl) rfl fun Y2 hY2 => ?_
          obtain ⟨e2, rfl⟩ := hY2
          go_wp2_with fail
          intro e3
          refine Mix.wpX_done (by kernel_rfl) ?_
          intro e4
          go_wp2_with fail
          go_end0
          refine ⟨rfl, ?_⟩
          exact runX_mk (x := x.gotV v false) (((((((Hu7.out.drewN e1).put 7 (.slice (some ⟨gg, 0, none⟩) (x.got.length + 1) cg2)).drewN e2).put 8 (.slice (some ⟨gl, 0, none⟩) (x.lags.length + 1) cl2)).drewN e3).drewN e4)) pb rb rfl rfl (by simp [xCells, Xs.gotV]) rfl rfl rfl rfl rfl rfl
      · refine Mix.mix_a (by simp only [List.getElem?_toArray, List.getElem?_cons_zero, List.getElem?_cons_succ]; exact rfl) rfl fun W8 hW8 => ?_
        obtain ⟨a8, rfl⟩ := hW8
        go_wp2_with fail
        refine ⟨fun j hj => Below.heap_alloc _ _ j (by rw [(HS.out j).1 hj]; exact HR6.out.x.lt), ?_⟩
        intro m8
        refine Mix.wpX_world fun u8 hu8 => ?_
        have c8 : Ch (fun _ => False) w6 u8 := by rw [hu8]; exact (((Ch.refl _ w6).drewN a8).alloc _).drewN m8
        have t14_8 : Blk u8 w6.heap.size 4 #[.bool false] := by rw [hu8]; exact (Blk.new (w6.drewN a8) _ _).drewN m8
        have Hu8 := hid (HR6.out.keep c8)
        clear hu8 c8
        refine Mix.wpX_prefix (fuel := 8) (by kernel_rfl) [7] _ _ _ (by kernel_rfl) ?_
        refine Mix.mix_a (by simp only [List.getElem?_toArray, List.getElem?_cons_zero, List.getElem?_cons_succ]; exact rfl) rfl fun W9 hW9 => ?_
        obtain ⟨a9, rfl⟩ := hW9
        go_wp2_with fail
        refine ⟨fun j hj => Below.heap_alloc _ _ j (by rw [(HS.out j).1 hj]; exact Hu8.out.x.lt), ?_⟩
        intro m9
        refine Mix.wpX_world fun u9 hu9 => ?_
        have c9 : Ch (fun _ => False) u8 u9 := by rw [hu9]; exact (((Ch.refl _ u8).drewN a9).alloc _).drewN m9
        have t7_9 : Blk u9 u8.heap.size 35 #[.int .u64 v] := by rw [hu9]; exact (Blk.new (u8.drewN a9) _ _).drewN m9
        have Hu9 := hid (Hu8.out.keep c9)
        have t14_9 := c9.blk t14_8 id
        clear hu9 c9
        refine Mix.wpX_prefix (fuel := 7) (by kernel_rfl) [8] _ _ _ (by kernel_rfl) ?_
        refine Mix.mix_a (by simp only [List.getElem?_toArray, List.getElem?_cons_zero, List.getElem?_cons_succ]; exact rfl) rfl fun W10 hW10 => ?_
        obtain ⟨a10, rfl⟩ := hW10
        have z10 := Hu9.out.bz
        refine wpList_app _ rfl _ _ 30 rfl B 35 i0 _ 1 8 Try.underlying30 hi hz0 hz1 hz2 rfl (by decide) _ _ _ rfl (Hu9.out.drewN a10).rg ⟨u8.heap.size, 0, none⟩ 1 1 [.int .u64 v] rfl rfl (fun j' u' hu => by rw [addr_add0]; exact ((t7_9.drewN a10).cell j').trans (by simpa using hu)) (fun u' hu => by simp at hu; subst hu; rfl) (by decide) (by unfold maxLen; omega) (by omega) z10 ?_
        intro v10 p10 hown10 hgrow10 hfresh10
        have r10 := (Hu9.out.drewN a10).appG (y := v) (by rw [u64V_snoc, List.length_append]; exact hown10) hgrow10 hfresh10
        have hkeep10 : Mix.Keep S u9 p10 := fun j hj => by rw [(HS.out j).1 hj]; exact r10.x.trans Hu9.out.x.symm
        have tq10 := (t14_9.drewN a10).grown hgrow10 ((t14_9.drewN a10).own (Hu9.out.drewN a10).rg (by decide))
        obtain ⟨gg, cg2, rfl, _, _, _, _⟩ := own_form hown10 (by omega)
        have R10 := hid r10
        clear r10 hown10 hgrow10 hfresh10 z10 t7_9
        go_wp2_with fail
        refine ⟨hkeep10, ?_⟩
        clear hkeep10
        intro m10
        refine Mix.wpX_world fun u10 hu10 => ?_
        have Hu10 := hid (show RunW _ _ _ _ _ _ _ _ _ _ _ _ _ _ _ _ _ _ _ _ u10 by rw [hu10]; exact R10.out.drewN m10)
        have t14_10 : Blk u10 w6.heap.size 4 #[.bool false] := by rw [hu10]; exact tq10.drewN m10
        clear tq10
        clear hu10 R10
        refine Mix.wpX_prefix (fuel := 6) (by kernel_rfl) [15] _ _ _ (by kernel_rfl) ?_
        refine Mix.mix_a (by simp only [List.getElem?_toArray, List.getElem?_cons_zero, List.getElem?_cons_succ]; exact rfl) rfl fun W11 hW11 => ?_
        obtain ⟨a11, rfl⟩ := hW11
        have z11 := Hu10.out.bz
        refine wpList_app _ rfl _ _ 31 rfl B 4 j0 _ 1 1 Try.underlying31 hj hy0 hy1 hy2 rfl (by decide) _ _ _ rfl (Hu10.out.drewN a11).rl ⟨w6.heap.size, 0, none⟩ 1 1 [.bool false] rfl rfl (fun j' u' hu => by rw [addr_add0]; exact ((t14_10.drewN a11).cell j').trans (by simpa using hu)) (fun u' hu => by simp at hu; subst hu; rfl) (by decide) (by unfold maxLen; omega) (by omega) z11 ?_
        intro v11 p11 hown11 hgrow11 hfresh11
        have r11 := (Hu10.out.drewN a11).appL (y := false) (by rw [boolV_snoc, List.length_append]; exact hown11) hgrow11 hfresh11
        have hkeep11 : Mix.Keep S u10 p11 := fun j hj => by rw [(HS.out j).1 hj]; exact r11.x.trans Hu10.out.x.symm
        obtain ⟨gl, cl2, rfl, _, _, _, _⟩ := own_form hown11 (by omega)
        have R11 := hid r11
        clear r11 hown11 hgrow11 hfresh11 z11 t14_10
        go_wp2_with fail
        refine ⟨hkeep11, ?_⟩
        clear hkeep11
        intro m11
        refine Mix.wpX_world fun u11 hu11 => ?_
        have Hu11 := hid (show RunW _ _ _ _ _ _ _ _ _ _ _ _ _ _ _ _ _ _ _ _ u11 by rw [hu11]; exact R11.out.drewN m11)
        clear hu11 R11
        refine Mix.wpX_prefix (fuel := 0) (by kernel_rfl) [16, 17, 18, 19, 20, 21] _ _ _ (by kernel_rfl) ?_
        have y7 : u11.cell? ⟨X, 7, none⟩ = some (.slice Ag x.got.length cg) := Hu11.out.x.cell 7
        have gy7 := Hu11.out.x.free 7
        have y8 : u11.cell? ⟨X, 8, none⟩ = some (.slice Al x.lags.length cl) := Hu11.out.x.cell 8
        have gy8 := Hu11.out.x.free 8
        iterate 2 (refine Mix.mix_q (by simp only [List.getElem?_toArray, List.getElem?_cons_zero, List.getElem?_cons_succ]; exact rfl) rfl ?_; go_big_quiet_step (fail); refine wpQuiet_nil ?_)
        refine Mix.mix_e (by simp only [List.getElem?_toArray, List.getElem?_cons_zero, List.getElem?_cons_succ]; exact rfl) rfl fun Y1 hY1 => ?_
        obtain ⟨e1, rfl⟩ := hY1
        go_wp2_with fail
        iterate 2 (refine Mix.mix_q (by simp only [List.getElem?_toArray, List.getElem?_cons_zero, List.getElem?_cons_succ]; exact rfl) rfl ?_; go_big_quiet_step (fail); refine wpQuiet_nil ?_)
        refine Mix.mix_e (by simp only [List.getElem?_toArray, List.getElem?_cons_zero, List.getElem?_cons_succ]; exact rfl) rfl fun Y2 hY2 => ?_
        obtain ⟨e2, rfl⟩ := hY2
        go_wp2_with fail
        intro e3
        refine Mix.wpX_done (by kernel_rfl) ?_
        intro e4
        go_wp2_with fail
        go_end0
        refine ⟨rfl, ?_⟩
        exact runX_mk (x := x.gotV v false) (((((((Hu11.out.drewN e1).put 7 (.slice (some ⟨gg, 0, none⟩) (x.got.length + 1) cg2)).drewN e2).put 8 (.slice (some ⟨gl, 0, none⟩) (x.lags.length + 1) cl2)).drewN e3).drewN e4)) pb rb rfl rfl (by simp [xCells, Xs.gotV]) rfl rfl rfl rfl rfl rfl

set_option maxRecDepth 100000 in
set_option maxHeartbeats 2000000 in
theorem got_f1 (B p cb fb X : Nat) (x : Xs) (v : Int) (at_ H T : Nat) (w0 w : World) (hX : RunX B p cb fb X x w0 w) (hlen : x.pushed.length ≤ 2000 ∧ x.items.length ≤ 2000 ∧ x.got.length ≤ 2000 ∧ x.lags.length ≤ 2000)
    (hHT : cHead x.s x.f = (H : Nat) ∧ cTail x.s x.f = (T : Nat) ∧ H ≤ T ∧ T ≤ 1000000) (hv : lastI x.got < v) (hpl : placeOf x.pushed v x.pushed.length = at_) (hat : at_ < x.pushed.length) (h0 : 0 < at_) (hg0 : lk x.pushed (at_ - 1) = lastI x.got) :
    Calls Try.prog 19 #[.pointer (some ⟨X, 0, none⟩), .int .u64 v, .bool false] w fun e w' => e = .returned (.tuple #[]) ∧ RunX B p cb fb X (x.gotV v false) w0 w' := by
  obtain ⟨lv, vp, vi, vg, vl, pb, rb, hR⟩ := hX
  obtain ⟨i0, hi, hz0, hz1, hz2⟩ := info_parts Try.infoU64
  obtain ⟨j0, hj, hy0, hy1, hy2⟩ := info_parts Try.infoBool
  obtain ⟨gp, cp, rfl, _, _, _, _⟩ := own_form hR.rp (by omega)
  obtain ⟨Ai, ci, rfl, _⟩ := own_slice hR.ri
  obtain ⟨Ag, cg, rfl, _⟩ := own_slice hR.rg
  obtain ⟨Al, cl, rfl, _⟩ := own_slice hR.rl
  obtain ⟨S, hS⟩ : ∃ S : Nat → Prop, ∀ k, S k ↔ k = X := ⟨_, fun _ => Iff.rfl⟩
  have hSp : Mix.Has S X := (hS _).2 rfl
  have HS := hid hS
  clear hS
  have hr := row_cell hR.rp rfl
  obtain ⟨hl1, hl2, hl3, hl4⟩ := hlen
  have hga : decide ((0 : Int) ≤ (at_ : Int)) = true := decide_eq_true (by omega)
  have hga2 : decide ((at_ : Int) ≥ 0) = true := decide_eq_true (by omega)
  have hgv : decide (lastI x.got < v) = true := decide_eq_true hv
  have hq1 : ((at_ : Int) == 0) = false := by rw [beq_eq_false_iff_ne]; omega
  have hq2 : decide ((at_ : Int) > 0) = true := decide_eq_true (by omega)
  have hq3 : decide ((0 : Int) < (at_ : Int)) = true := decide_eq_true (by omega)
  have hgx : gp ≠ X := hR.x.own' hR.rp (by decide) gp rfl
  have hgx2 : X ≠ gp := fun e => hgx e.symm
  have x0 : w.cell? ⟨X, 0, none⟩ = some (.pointer (some ⟨fb, 0, none⟩)) := hR.x.cell 0
  have gx0 := hR.x.free 0
  have x4 : w.cell? ⟨X, 4, none⟩ = some (.slice (some ⟨gp, 0, none⟩) x.pushed.length cp) := hR.x.cell 4
  have gx4 := hR.x.free 4
  have x5 : w.cell? ⟨X, 5, none⟩ = some (.slice Ai x.items.length ci) := hR.x.cell 5
  have gx5 := hR.x.free 5
  have x7 : w.cell? ⟨X, 7, none⟩ = some (.slice Ag x.got.length cg) := hR.x.cell 7
  have gx7 := hR.x.free 7
  have x8 : w.cell? ⟨X, 8, none⟩ = some (.slice Al x.lags.length cl) := hR.x.cell 8
  have gx8 := hR.x.free 8
  have x11 : w.cell? ⟨X, 11, none⟩ = some (.bool x.full) := hR.x.cell 11
  have gx11 := hR.x.free 11
  have x14 : w.cell? ⟨X, 14, none⟩ = some (.bool true) := hR.x.cell 14
  have gx14 := hR.x.free 14
  have x15 : w.cell? ⟨X, 15, none⟩ = some (.bool true) := hR.x.cell 15
  have gx15 := hR.x.free 15
  have x16 : w.cell? ⟨X, 16, none⟩ = some (.bool true) := hR.x.cell 16
  have gx16 := hR.x.free 16
  have HR := hid hR
  have Hr := hid hr
  clear hR hr
  go_enter Try.func19, Try.ntmps19
  go_wp2_with fail
  refine (last_any B X _ x.got w x7 HR.out.rg (by omega)).mono ?_
  rintro e w1 ⟨rfl, n1, rfl⟩
  go_wp2_with fail
  go_loopw [7, 8] (fun t i wr => ∃ k : Nat, k ≤ x.pushed.length ∧ i = .int .i64 k ∧ t = .int .i64 (placeOf x.pushed v k) ∧ ∃ d, wr = w.drewN d) (fun _ i _ => x.pushed.length - (intOf i).toNat)
  case atStart => exact ⟨0, Nat.zero_le _, rfl, rfl, n1, rfl⟩
  case round =>
    obtain ⟨k, hk, rfl, rfl, d, rfl⟩ := hrel
    by_cases hlt : k < x.pushed.length
    · have hc := Hr.out k hlt
      have hk1 : decide ((k : Int) < (x.pushed.length : Int)) = true := decide_eq_true (by omega)
      have hk2 : decide (k < x.pushed.length) = true := decide_eq_true hlt
      by_cases he : lk x.pushed k = v
      · have hpk : placeOf x.pushed v (k + 1) = k := by unfold placeOf; rw [if_pos he]
        have hbe : (lk x.pushed k == v) = true := by rw [beq_iff_eq]; exact he
        have Hpk := hid hpk
        clear he hpk
        go_wp2_with fail
        go_roundw
        case rel => exact ⟨k + 1, by omega, by go_num, by rw [Hpk.out], _, rfl⟩
        case measure => simp [intOf]; omega
      · have hpk : placeOf x.pushed v (k + 1) = placeOf x.pushed v k := by rw [placeOf, if_neg he]
        have hbe : (lk x.pushed k == v) = false := by rw [beq_eq_false_iff_ne]; exact he
        have Hpk := hid hpk
        clear he hpk
        go_wp2_with fail
        go_roundw
        case rel => exact ⟨k + 1, by omega, by go_num, by rw [Hpk.out], _, rfl⟩
        case measure => simp [intOf]; omega
    · have hkn : k = x.pushed.length := by omega
      subst hkn
      have hk1 : decide ((x.pushed.length : Int) < (x.pushed.length : Int)) = false := decide_eq_false (by omega)
      rw [hpl]
      have hc := Hr.out (at_ - 1) (by omega)
      rw [hg0] at hc
      clear hg0
      go_wp2_with fail
      refine Mix.wp_region_X S (fun i => ([1, 1, 1, 1, 1, 4, 1, 3, 3, 1, 1, 1, 4, 1, 3, 3, 0, 0, 2, 0, 0, 2] : List Nat).getD i 0) (by kernel_rfl) ?_
      refine Mix.wpX_world fun w5 hw5 => ?_
      have hR5 := ((HR.out.drewN d).put 14 (.bool true)).put 15 (.bool true)
      rw [← hw5] at hR5
      clear x0 gx0 x4 gx4 x5 gx5 x7 gx7 x8 gx8 x11 gx11 x14 gx14 x15 gx15 x16 gx16
      clear hw5
      have x0 : w5.cell? ⟨X, 0, none⟩ = some (.pointer (some ⟨fb, 0, none⟩)) := hR5.x.cell 0
      have gx0 := hR5.x.free 0
      have x4 : w5.cell? ⟨X, 4, none⟩ = some (.slice (some ⟨gp, 0, none⟩) x.pushed.length cp) := hR5.x.cell 4
      have gx4 := hR5.x.free 4
      have x5 : w5.cell? ⟨X, 5, none⟩ = some (.slice Ai x.items.length ci) := hR5.x.cell 5
      have gx5 := hR5.x.free 5
      have x7 : w5.cell? ⟨X, 7, none⟩ = some (.slice Ag x.got.length cg) := hR5.x.cell 7
      have gx7 := hR5.x.free 7
      have x8 : w5.cell? ⟨X, 8, none⟩ = some (.slice Al x.lags.length cl) := hR5.x.cell 8
      have gx8 := hR5.x.free 8
      have x11 : w5.cell? ⟨X, 11, none⟩ = some (.bool x.full) := hR5.x.cell 11
      have gx11 := hR5.x.free 11
      have x14 : w5.cell? ⟨X, 14, none⟩ = some (.bool true) := hR5.x.cell 14
      have gx14 := hR5.x.free 14
      have x15 : w5.cell? ⟨X, 15, none⟩ = some (.bool true) := hR5.x.cell 15
      have gx15 := hR5.x.free 15
      have x16 : w5.cell? ⟨X, 16, none⟩ = some (.bool true) := hR5.x.cell 16
      have gx16 := hR5.x.free 16
      have HR5 := hid hR5
      clear hR5
      refine Mix.wpX_prefix (fuel := 10) (by kernel_rfl) [0, 1, 2, 3, 4, 5, 6, 9, 10, 11, 12, 13] _ _ _ (by kernel_rfl) ?_
      repeat (first | (refine Mix.mix_q (by simp only [List.getElem?_toArray, List.getElem?_cons_zero, List.getElem?_cons_succ]; exact rfl) rfl ?_; go_big_quiet_step (fail); refine wpQuiet_nil ?_) | (refine Mix.mix_p (by simp only [List.getElem?_toArray, List.getElem?_cons_zero, List.getElem?_cons_succ]; exact rfl) rfl rfl ?_; go_big_quiet_step (fail); refine wpQuiet_nil ?_) | (refine Mix.mix_s (by simp only [List.getElem?_toArray, List.getElem?_cons_zero, List.getElem?_cons_succ]; exact rfl) rfl rfl ?_; go_big_quiet_step (fail); refine wpQuiet_nil ?_))
      intro f0
      refine Mix.wpX_world fun w6 hw6 => ?_
      have HR6 := hid (show RunW _ _ _ _ _ _ _ _ _ _ _ _ _ _ _ _ _ _ _ _ w6 by rw [hw6]; exact HR5.out.drewN f0)
      clear x0 gx0 x4 gx4 x5 gx5 x7 gx7 x8 gx8 x11 gx11 x14 gx14 x15 gx15 x16 gx16
      clear hw6 HR5
      refine Mix.wpX_two 7 14 (by kernel_rfl) ?_ ?_
      · refine Mix.mix_a (by simp only [List.getElem?_toArray, List.getElem?_cons_zero, List.getElem?_cons_succ]; exact rfl) rfl fun W12 hW12 => ?_
        obtain ⟨a12, rfl⟩ := hW12
        go_wp2_with fail
        refine ⟨fun j hj => Below.heap_alloc _ _ j (by rw [(HS.out j).1 hj]; exact HR6.out.x.lt), ?_⟩
        intro m12
        refine Mix.wpX_world fun u12 hu12 => ?_
        have c12 : Ch (fun _ => False) w6 u12 := by rw [hu12]; exact (((Ch.refl _ w6).drewN a12).alloc _).drewN m12
        have t7_12 : Blk u12 w6.heap.size 35 #[.int .u64 v] := by rw [hu12]; exact (Blk.new (w6.drewN a12) _ _).drewN m12
        have Hu12 := hid (HR6.out.keep c12)
        clear hu12 c12
        refine Mix.wpX_two 8 14 (by kernel_rfl) ?_ ?_
        · refine Mix.mix_a (by simp only [List.getElem?_toArray, List.getElem?_cons_zero, List.getElem?_cons_succ]; exact rfl) rfl fun W13 hW13 => ?_
          obtain ⟨a13, rfl⟩ := hW13
          have z13 := Hu12.out.bz
          refine wpList_app _ rfl _ _ 30 rfl B 35 i0 _ 1 8 Try.underlying30 hi hz0 hz1 hz2 rfl (by decide) _ _ _ rfl (Hu12.out.drewN a13).rg ⟨w6.heap.size, 0, none⟩ 1 1 [.int .u64 v] rfl rfl (fun j' u' hu => by rw [addr_add0]; exact ((t7_12.drewN a13).cell j').trans (by simpa using hu)) (fun u' hu => by simp at hu; subst hu; rfl) (by decide) (by unfold maxLen; omega) (by omega) z13 ?_
          intro v13 p13 hown13 hgrow13 hfresh13
          have r13 := (Hu12.out.drewN a13).appG (y := v) (by rw [u64V_snoc, List.length_append]; exact hown13) hgrow13 hfresh13
          have hkeep13 : Mix.Keep S u12 p13 := fun j hj => by rw [(HS.out j).1 hj]; exact r13.x.trans Hu12.out.x.symm
          obtain ⟨gg, cg2, rfl, _, _, _, _⟩ := own_form hown13 (by omega)
          have R13 := hid r13
          clear r13 hown13 hgrow13 hfresh13 z13 t7_12
          go_wp2_with fail
          refine ⟨hkeep13, ?_⟩
          clear hkeep13
          intro m13
          refine Mix.wpX_world fun u13 hu13 => ?_
          have Hu13 := hid (show RunW _ _ _ _ _ _ _ _ _ _ _ _ _ _ _ _ _ _ _ _ u13 by rw [hu13]; exact R13.out.drewN m13)
          clear hu13 R13
          refine Mix.wpX_prefix (fuel := 7) (by kernel_rfl) [14] _ _ _ (by kernel_rfl) ?_
          refine Mix.mix_a (by simp only [List.getElem?_toArray, List.getElem?_cons_zero, List.getElem?_cons_succ]; exact rfl) rfl fun W14 hW14 => ?_
          obtain ⟨a14, rfl⟩ := hW14
          go_wp2_with fail
          refine ⟨fun j hj => Below.heap_alloc _ _ j (by rw [(HS.out j).1 hj]; exact Hu13.out.x.lt), ?_⟩
          intro m14
          refine Mix.wpX_world fun u14 hu14 => ?_
          have c14 : Ch (fun _ => False) u13 u14 := by rw [hu14]; exact (((Ch.refl _ u13).drewN a14).alloc _).drewN m14
          have t14_14 : Blk u14 u13.heap.size 4 #[.bool false] := by rw [hu14]; exact (Blk.new (u13.drewN a14) _ _).drewN m14
          have Hu14 := hid (Hu13.out.keep c14)
          clear hu14 c14
          refine Mix.wpX_prefix (fuel := 6) (by kernel_rfl) [15] _ _ _ (by kernel_rfl) ?_
          refine Mix.mix_a (by simp only [List.getElem?_toArray, List.getElem?_cons_zero, List.getElem?_cons_succ]; exact rfl) rfl fun W15 hW15 => ?_
          obtain ⟨a15, rfl⟩ := hW15
          have z15 := Hu14.out.bz
          refine wpList_app _ rfl _ _ 31 rfl B 4 j0 _ 1 1 Try.underlying31 hj hy0 hy1 hy2 rfl (by decide) _ _ _ rfl (Hu14.out.drewN a15).rl ⟨u13.heap.size, 0, none⟩ 1 1 [.bool false] rfl rfl (fun j' u' hu => by rw [addr_add0]; exact ((t14_14.drewN a15).cell j').trans (by simpa using hu)) (fun u' hu => by simp at hu; subst hu; rfl) (by decide) (by unfold maxLen; omega) (by omega) z15 ?_
          intro v15 p15 hown15 hgrow15 hfresh15
          have r15 := (Hu14.out.drewN a15).appL (y := false) (by rw [boolV_snoc, List.length_append]; exact hown15) hgrow15 hfresh15
          have hkeep15 : Mix.Keep S u14 p15 := fun j hj => by rw [(HS.out j).1 hj]; exact r15.x.trans Hu14.out.x.symm
          obtain ⟨gl, cl2, rfl, _, _, _, _⟩ := own_form hown15 (by omega)
          have R15 := hid r15
          clear r15 hown15 hgrow15 hfresh15 z15 t14_14
          go_wp2_with fail
          refine ⟨hkeep15, ?_⟩
          clear hkeep15
          intro m15
          refine Mix.wpX_world fun u15 hu15 => ?_
          have Hu15 := hid (show RunW _ _ _ _ _ _ _ _ _ _ _ _ _ _ _ _ _ _ _ _ u15 by rw [hu15]; exact R15.out.drewN m15)
          clear hu15 R15
          refine Mix.wpX_prefix (fuel := 0) (by kernel_rfl) [16, 17, 18, 19, 20, 21] _ _ _ (by kernel_rfl) ?_
          have y7 : u15.cell? ⟨X, 7, none⟩ = some (.slice Ag x.got.length cg) := Hu15.out.x.cell 7
          have gy7 := Hu15.out.x.free 7
          have y8 : u15.cell? ⟨X, 8, none⟩ = some (.slice Al x.lags.length cl) := Hu15.out.x.cell 8
          have gy8 := Hu15.out.x.free 8
          iterate 2 (refine Mix.mix_q (by simp only [List.getElem?_toArray, List.getElem?_cons_zero, List.getElem?_cons_succ]; exact rfl) rfl ?_; go_big_quiet_step (fail); refine wpQuiet_nil ?_)
          refine Mix.mix_e (by simp only [List.getElem?_toArray, List.getElem?_cons_zero, List.getElem?_cons_succ]; exact rfl) rfl fun Y1 hY1 => ?_
          obtain ⟨e1, rfl⟩ := hY1
          go_wp2_with fail
          iterate 2 (refine Mix.mix_q (by simp only [List.getElem?_toArray, List.getElem?_cons_zero, List.getElem?_cons_succ]; exact rfl) rfl ?_; go_big_quiet_step (fail); refine wpQuiet_nil ?_)
          refine Mix.mix_e (by simp only [List.getElem?_toArray, List.getElem?_cons_zero, List.getElem?_cons_succ]; exact rfl) rfl fun Y2 hY2 => ?_
          obtain ⟨e2, rfl⟩ := hY2
          go_wp2_with fail
          intro e3
          refine Mix.wpX_done (by kernel_rfl) ?_
          intro e4
          go_wp2_with fail
          go_end0
          refine ⟨rfl, ?_⟩
          exact runX_mk (x := x.gotV v false) (((((((Hu15.out.drewN e1).put 7 (.slice (some ⟨gg, 0, none⟩) (x.got.length + 1) cg2)).drewN e2).put 8 (.slice (some ⟨gl, 0, none⟩) (x.lags.length + 1) cl2)).drewN e3).drewN e4)) pb rb rfl rfl (by simp [xCells, Xs.gotV]) rfl rfl rfl rfl rfl rfl
        · refine Mix.mix_a (by simp only [List.getElem?_toArray, List.getElem?_cons_zero, List.getElem?_cons_succ]; exact rfl) rfl fun W16 hW16 => ?_
          obtain ⟨a16, rfl⟩ := hW16
          go_wp2_with fail
          refine ⟨fun j hj => Below.heap_alloc _ _ j (by rw [(HS.out j).1 hj]; exact Hu12.out.x.lt), ?_⟩
          intro m16
          refine Mix.wpX_world fun u16 hu16 => ?_
          have c16 : Ch (fun _ => False) u12 u16 := by rw [hu16]; exact (((Ch.refl _ u12).drewN a16).alloc _).drewN m16
          have t14_16 : Blk u16 u12.heap.size 4 #[.bool false] := by rw [hu16]; exact (Blk.new (u12.drewN a16) _ _).drewN m16
          have Hu16 := hid (Hu12.out.keep c16)
          have t7_16 := c16.blk t7_12 id
          clear hu16 c16
          refine Mix.wpX_prefix (fuel := 7) (by kernel_rfl) [8] _ _ _ (by kernel_rfl) ?_
          refine Mix.mix_a (by simp only [List.getElem?_toArray, List.getElem?_cons_zero, List.getElem?_cons_succ]; exact rfl) rfl fun W17 hW17 => ?_
          obtain ⟨a17, rfl⟩ := hW17
          have z17 := Hu16.out.bz
          refine wpList_app _ rfl _ _ 30 rfl B 35 i0 _ 1 8 Try.underlying30 hi hz0 hz1 hz2 rfl (by decide) _ _ _ rfl (Hu16.out.drewN a17).rg ⟨w6.heap.size, 0, none⟩ 1 1 [.int .u64 v] rfl rfl (fun j' u' hu => by rw [addr_add0]; exact ((t7_16.drewN a17).cell j').trans (by simpa using hu)) (fun u' hu => by simp at hu; subst hu; rfl) (by decide) (by unfold maxLen; omega) (by omega) z17 ?_
          intro v17 p17 hown17 hgrow17 hfresh17
          have r17 := (Hu16.out.drewN a17).appG (y := v) (by rw [u64V_snoc, List.length_append]; exact hown17) hgrow17 hfresh17
          have hkeep17 : Mix.Keep S u16 p17 := fun j hj => by rw [(HS.out j).1 hj]; exact r17.x.trans Hu16.out.x.symm
          have tq17 := (t14_16.drewN a17).grown hgrow17 ((t14_16.drewN a17).own (Hu16.out.drewN a17).rg (by decide))
          obtain ⟨gg, cg2, rfl, _, _, _, _⟩ := own_form hown17 (by omega)
          have R17 := hid r17
          clear r17 hown17 hgrow17 hfresh17 z17 t7_16
          go_wp2_with fail
          refine ⟨hkeep17, ?_⟩
          clear hkeep17
          intro m17
          refine Mix.wpX_world fun u17 hu17 => ?_
          have Hu17 := hid (show RunW _ _ _ _ _ _ _ _ _ _ _ _ _ _ _ _ _ _ _ _ u17 by rw [hu17]; exact R17.out.drewN m17)
          have t14_17 : Blk u17 u12.heap.size 4 #[.bool false] := by rw [hu17]; exact tq17.drewN m17
          clear tq17
          clear hu17 R17
          refine Mix.wpX_prefix (fuel := 6) (by kernel_rfl) [15] _ _ _ (by kernel_rfl) ?_
          refine Mix.mix_a (by simp only [List.getElem?_toArray, List.getElem?_cons_zero, List.getElem?_cons_succ]; exact rfl) rfl fun W18 hW18 => ?_
          obtain ⟨a18, rfl⟩ := hW18
          have z18 := Hu17.out.bz
          refine wpList_app _ rfl _ _ 31 rfl B 4 j0 _ 1 1 Try.underlying31 hj hy0 hy1 hy2 rfl (by decide) _ _ _ rfl (Hu17.out.drewN a18).rl ⟨u12.heap.size, 0, none⟩ 1 1 [.bool false] rfl rfl (fun j' u' hu => by rw [addr_add0]; exact ((t14_17.drewN a18).cell j').trans (by simpa using hu)) (fun u' hu => by simp at hu; subst hu; rfl) (by decide) (by unfold maxLen; omega) (by omega) z18 ?_
          intro v18 p18 hown18 hgrow18 hfresh18
          have r18 := (Hu17.out.drewN a18).appL (y := false) (by rw [boolV_snoc, List.length_append]; exact hown18) hgrow18 hfresh18
          have hkeep18 : Mix.Keep S u17 p18 := fun j hj => by rw [(HS.out j).1 hj]; exact r18.x.trans Hu17.out.x.symm
          obtain ⟨gl, cl2, rfl, _, _, _, _⟩ := own_form hown18 (by omega)
          have R18 := hid r18
          clear r18 hown18 hgrow18 hfresh18 z18 t14_17
          go_wp2_with fail
          refine ⟨hkeep18, ?_⟩
          clear hkeep18
          intro m18
          refine Mix.wpX_world fun u18 hu18 => ?_
          have Hu18 := hid (show RunW _ _ _ _ _ _ _ _ _ _ _ _ _ _ _ _ _ _ _ _ u18 by rw [hu18]; exact R18.out.drewN m18)
          clear hu18 R18
          refine Mix.wpX_prefix (fuel := 0) (by kernel_rfl) [16, 17, 18, 19, 20, 21] _ _ _ (by kernel_rfl) ?_
          have y7 : u18.cell? ⟨X, 7, none⟩ = some (.slice Ag x.got.length cg) := Hu18.out.x.cell 7
          have gy7 := Hu18.out.x.free 7
          have y8 : u18.cell? ⟨X, 8, none⟩ = some (.slice Al x.lags.length cl) := Hu18.out.x.cell 8
          have gy8 := Hu18.out.x.free 8
          iterate 2 (refine Mix.mix_q (by simp only [List.getElem?_toArray, List.getElem?_cons_zero, List.getElem?_cons_succ]; exact rfl) rfl ?_; go_big_quiet_step (fail); refine wpQuiet_nil ?_)
          refine Mix.mix_e (by simp only [List.getElem?_toArray, List.getElem?_cons_zero, List.getElem?_cons_succ]; exact rfl) rfl fun Y1 hY1 => ?_
          obtain ⟨e1, rfl⟩ := hY1
          go_wp2_with fail
          iterate 2 (refine Mix.mix_q (by simp only [List.getElem?_toArray, List.getElem?_cons_zero, List.getElem?_cons_succ]; exact rfl) rfl ?_; go_big_quiet_step (fail); refine wpQuiet_nil ?_)
          refine Mix.mix_e (by simp only [List.getElem?_toArray, List.getElem?_cons_zero, List.getElem?_cons_succ]; exact rfl) rfl fun Y2 hY2 => ?_
          obtain ⟨e2, rfl⟩ := hY2
          go_wp2_with fail
          intro e3
          refine Mix.wpX_done (by kernel_rfl) ?_
          intro e4
          go_wp2_with fail
          go_end0
          refine ⟨rfl, ?_⟩
          exact runX_mk (x := x.gotV v false) (((((((Hu18.out.drewN e1).put 7 (.slice (some ⟨gg, 0, none⟩) (x.got.length + 1) cg2)).drewN e2).put 8 (.slice (some ⟨gl, 0, none⟩) (x.lags.length + 1) cl2)).drewN e3).drewN e4)) pb rb rfl rfl (by simp [xCells, Xs.gotV]) rfl rfl rfl rfl rfl rfl
      · refine Mix.mix_a (by simp only [List.getElem?_toArray, List.getElem?_cons_zero, List.getElem?_cons_succ]; exact rfl) rfl fun W19 hW19 => ?_
        obtain ⟨a19, rfl⟩ := hW19
        go_wp2_with fail
        refine ⟨fun j hj => Below.heap_alloc _ _ j (by rw [(HS.out j).1 hj]; exact HR6.out.x.lt), ?_⟩
        intro m19
        refine Mix.wpX_world fun u19 hu19 => ?_
        have c19 : Ch (fun _ => False) w6 u19 := by rw [hu19]; exact (((Ch.refl _ w6).drewN a19).alloc _).drewN m19
        have t14_19 : Blk u19 w6.heap.size 4 #[.bool false] := by rw [hu19]; exact (Blk.new (w6.drewN a19) _ _).drewN m19
        have Hu19 := hid (HR6.out.keep c19)
        clear hu19 c19
        refine Mix.wpX_prefix (fuel := 8) (by kernel_rfl) [7] _ _ _ (by kernel_rfl) ?_
        refine Mix.mix_a (by simp only [List.getElem?_toArray, List.getElem?_cons_zero, List.getElem?_cons_succ]; exact rfl) rfl fun W20 hW20 => ?_
        obtain ⟨a20, rfl⟩ := hW20
        go_wp2_with fail
        refine ⟨fun j hj => Below.heap_alloc _ _ j (by rw [(HS.out j).1 hj]; exact Hu19.out.x.lt), ?_⟩
        intro m20
        refine Mix.wpX_world fun u20 hu20 => ?_
        have c20 : Ch (fun _ => False) u19 u20 := by rw [hu20]; exact (((Ch.refl _ u19).drewN a20).alloc _).drewN m20
        have t7_20 : Blk u20 u19.heap.size 35 #[.int .u64 v] := by rw [hu20]; exact (Blk.new (u19.drewN a20) _ _).drewN m20
        have Hu20 := hid (Hu19.out.keep c20)
        have t14_20 := c20.blk t14_19 id
        clear hu20 c20
        refine Mix.wpX_prefix (fuel := 7) (by kernel_rfl) [8] _ _ _ (by kernel_rfl) ?_
        refine Mix.mix_a (by simp only [List.getElem?_toArray, List.getElem?_cons_zero, List.getElem?_cons_succ]; exact rfl) rfl fun W21 hW21 => ?_
        obtain ⟨a21, rfl⟩ := hW21
        have z21 := Hu20.out.bz
        refine wpList_app _ rfl _ _ 30 rfl B 35 i0 _ 1 8 Try.underlying30 hi hz0 hz1 hz2 rfl (by decide) _ _ _ rfl (Hu20.out.drewN a21).rg ⟨u19.heap.size, 0, none⟩ 1 1 [.int .u64 v] rfl rfl (fun j' u' hu => by rw [addr_add0]; exact ((t7_20.drewN a21).cell j').trans (by simpa using hu)) (fun u' hu => by simp at hu; subst hu; rfl) (by decide) (by unfold maxLen; omega) (by omega) z21 ?_
        intro v21 p21 hown21 hgrow21 hfresh21
        have r21 := (Hu20.out.drewN a21).appG (y := v) (by rw [u64V_snoc, List.length_append]; exact hown21) hgrow21 hfresh21
        have hkeep21 : Mix.Keep S u20 p21 := fun j hj => by rw [(HS.out j).1 hj]; exact r21.x.trans Hu20.out.x.symm
        have tq21 := (t14_20.drewN a21).grown hgrow21 ((t14_20.drewN a21).own (Hu20.out.drewN a21).rg (by decide))
        obtain ⟨gg, cg2, rfl, _, _, _, _⟩ := own_form hown21 (by omega)
        have R21 := hid r21
        clear r21 hown21 hgrow21 hfresh21 z21 t7_20
        go_wp2_with fail
        refine ⟨hkeep21, ?_⟩
        clear hkeep21
        intro m21
        refine Mix.wpX_world fun u21 hu21 => ?_
        have Hu21 := hid (show RunW _ _ _ _ _ _ _ _ _ _ _ _ _ _ _ _ _ _ _ _ u21 by rw [hu21]; exact R21.out.drewN m21)
        have t14_21 : Blk u21 w6.heap.size 4 #[.bool false] := by rw [hu21]; exact tq21.drewN m21
        clear tq21
        clear hu21 R21
        refine Mix.wpX_prefix (fuel := 6) (by kernel_rfl) [15] _ _ _ (by kernel_rfl) ?_
        refine Mix.mix_a (by simp only [List.getElem?_toArray, List.getElem?_cons_zero, List.getElem?_cons_succ]; exact rfl) rfl fun W22 hW22 => ?_
        obtain ⟨a22, rfl⟩ := hW22
        have z22 := Hu21.out.bz
        refine wpList_app _ rfl _ _ 31 rfl B 4 j0 _ 1 1 Try.underlying31 hj hy0 hy1 hy2 rfl (by decide) _ _ _ rfl (Hu21.out.drewN a22).rl ⟨w6.heap.size, 0, none⟩ 1 1 [.bool false] rfl rfl (fun j' u' hu => by rw [addr_add0]; exact ((t14_21.drewN a22).cell j').trans (by simpa using hu)) (fun u' hu => by simp at hu; subst hu; rfl) (by decide) (by unfold maxLen; omega) (by omega) z22 ?_
        intro v22 p22 hown22 hgrow22 hfresh22
        have r22 := (Hu21.out.drewN a22).appL (y := false) (by rw [boolV_snoc, List.length_append]; exact hown22) hgrow22 hfresh22
        have hkeep22 : Mix.Keep S u21 p22 := fun j hj => by rw [(HS.out j).1 hj]; exact r22.x.trans Hu21.out.x.symm
        obtain ⟨gl, cl2, rfl, _, _, _, _⟩ := own_form hown22 (by omega)
        have R22 := hid r22
        clear r22 hown22 hgrow22 hfresh22 z22 t14_21
        go_wp2_with fail
        refine ⟨hkeep22, ?_⟩
        clear hkeep22
        intro m22
        refine Mix.wpX_world fun u22 hu22 => ?_
        have Hu22 := hid (show RunW _ _ _ _ _ _ _ _ _ _ _ _ _ _ _ _ _ _ _ _ u22 by rw [hu22]; exact R22.out.drewN m22)
        clear hu22 R22
        refine Mix.wpX_prefix (fuel := 0) (by kernel_rfl) [16, 17, 18, 19, 20, 21] _ _ _ (by kernel_rfl) ?_
        have y7 : u22.cell? ⟨X, 7, none⟩ = some (.slice Ag x.got.length cg) := Hu22.out.x.cell 7
        have gy7 := Hu22.out.x.free 7
        have y8 : u22.cell? ⟨X, 8, none⟩ = some (.slice Al x.lags.length cl) := Hu22.out.x.cell 8
        have gy8 := Hu22.out.x.free 8
        iterate 2 (refine Mix.mix_q (by simp only [List.getElem?_toArray, List.getElem?_cons_zero, List.getElem?_cons_succ]; exact rfl) rfl ?_; go_big_quiet_step (fail); refine wpQuiet_nil ?_)
        refine Mix.mix_e (by simp only [List.getElem?_toArray, List.getElem?_cons_zero, List.getElem?_cons_succ]; exact rfl) rfl fun Y1 hY1 => ?_
        obtain ⟨e1, rfl⟩ := hY1
        go_wp2_with fail
        iterate 2 (refine Mix.mix_q (by simp only [List.getElem?_toArray, List.getElem?_cons_zero, List.getElem?_cons_succ]; exact rfl) rfl ?_; go_big_quiet_step (fail); refine wpQuiet_nil ?_)
        refine Mix.mix_e (by simp only [List.getElem?_toArray, List.getElem?_cons_zero, List.getElem?_cons_succ]; exact rfl) rfl fun Y2 hY2 => ?_
        obtain ⟨e2, rfl⟩ := hY2
        go_wp2_with fail
        intro e3
        refine Mix.wpX_done (by kernel_rfl) ?_
        intro e4
        go_wp2_with fail
        go_end0
        refine ⟨rfl, ?_⟩
        exact runX_mk (x := x.gotV v false) (((((((Hu22.out.drewN e1).put 7 (.slice (some ⟨gg, 0, none⟩) (x.got.length + 1) cg2)).drewN e2).put 8 (.slice (some ⟨gl, 0, none⟩) (x.lags.length + 1) cl2)).drewN e3).drewN e4)) pb rb rfl rfl (by simp [xCells, Xs.gotV]) rfl rfl rfl rfl rfl rfl

set_option maxRecDepth 100000 in
set_option maxHeartbeats 2000000 in
theorem got_t (B p cb fb X : Nat) (x : Xs) (v : Int) (at_ H T : Nat) (w0 w : World) (hX : RunX B p cb fb X x w0 w) (hlen : x.pushed.length ≤ 2000 ∧ x.items.length ≤ 2000 ∧ x.got.length ≤ 2000 ∧ x.lags.length ≤ 2000)
    (hHT : cHead x.s x.f = (H : Nat) ∧ cTail x.s x.f = (T : Nat) ∧ H ≤ T ∧ T ≤ 1000000) (hv : lastI x.got < v) (hpl : placeOf x.pushed v x.pushed.length = at_) (hat : at_ < x.pushed.length) (hll : x.lags.length = x.got.length) (hfull : x.full = true) (hnl : nolag x.lags = x.items.length) (hfl : flen x.s x.f = 0) :
    Calls Try.prog 19 #[.pointer (some ⟨X, 0, none⟩), .int .u64 v, .bool true] w fun e w' => e = .returned (.tuple #[]) ∧ RunX B p cb fb X (x.gotV v true) w0 w' := by
  obtain ⟨lv, vp, vi, vg, vl, pb, rb, hR⟩ := hX
  obtain ⟨i0, hi, hz0, hz1, hz2⟩ := info_parts Try.infoU64
  obtain ⟨j0, hj, hy0, hy1, hy2⟩ := info_parts Try.infoBool
  obtain ⟨gp, cp, rfl, _, _, _, _⟩ := own_form hR.rp (by omega)
  obtain ⟨Ai, ci, rfl, _⟩ := own_slice hR.ri
  obtain ⟨Ag, cg, rfl, _⟩ := own_slice hR.rg
  obtain ⟨Al, cl, rfl, _⟩ := own_slice hR.rl
  obtain ⟨S, hS⟩ : ∃ S : Nat → Prop, ∀ k, S k ↔ k = X := ⟨_, fun _ => Iff.rfl⟩
  have hSp : Mix.Has S X := (hS _).2 rfl
  have HS := hid hS
  clear hS
  have hr := row_cell hR.rp rfl
  obtain ⟨hl1, hl2, hl3, hl4⟩ := hlen
  have hga : decide ((0 : Int) ≤ (at_ : Int)) = true := decide_eq_true (by omega)
  have hga2 : decide ((at_ : Int) ≥ 0) = true := decide_eq_true (by omega)
  have hgv : decide (lastI x.got < v) = true := decide_eq_true hv
  obtain ⟨ng, hng⟩ : ∃ ng, x.got.length + 1 = ng := ⟨_, rfl⟩
  have hngs : ng ≤ 2001 := by omega
  have Hng : Hid (x.got.length + 1 = ng ∧ x.lags.length + 1 = ng) := hid ⟨hng, by omega⟩
  have Hfull := hid hfull
  have Hnl := hid hnl
  have Hfl := hid hfl
  have HHT := hid hHT
  clear hll hng hfull hnl hfl hHT
  have x0 : w.cell? ⟨X, 0, none⟩ = some (.pointer (some ⟨fb, 0, none⟩)) := hR.x.cell 0
  have gx0 := hR.x.free 0
  have x4 : w.cell? ⟨X, 4, none⟩ = some (.slice (some ⟨gp, 0, none⟩) x.pushed.length cp) := hR.x.cell 4
  have gx4 := hR.x.free 4
  have x5 : w.cell? ⟨X, 5, none⟩ = some (.slice Ai x.items.length ci) := hR.x.cell 5
  have gx5 := hR.x.free 5
  have x7 : w.cell? ⟨X, 7, none⟩ = some (.slice Ag x.got.length cg) := hR.x.cell 7
  have gx7 := hR.x.free 7
  have x8 : w.cell? ⟨X, 8, none⟩ = some (.slice Al x.lags.length cl) := hR.x.cell 8
  have gx8 := hR.x.free 8
  have x11 : w.cell? ⟨X, 11, none⟩ = some (.bool x.full) := hR.x.cell 11
  have gx11 := hR.x.free 11
  have x14 : w.cell? ⟨X, 14, none⟩ = some (.bool true) := hR.x.cell 14
  have gx14 := hR.x.free 14
  have x15 : w.cell? ⟨X, 15, none⟩ = some (.bool true) := hR.x.cell 15
  have gx15 := hR.x.free 15
  have x16 : w.cell? ⟨X, 16, none⟩ = some (.bool true) := hR.x.cell 16
  have gx16 := hR.x.free 16
  have HR := hid hR
  have Hr := hid hr
  clear hR hr
  go_enter Try.func19, Try.ntmps19
  go_wp2_with fail
  refine (last_any B X _ x.got w x7 HR.out.rg (by omega)).mono ?_
  rintro e w1 ⟨rfl, n1, rfl⟩
  go_wp2_with fail
  go_loopw [7, 8] (fun t i wr => ∃ k : Nat, k ≤ x.pushed.length ∧ i = .int .i64 k ∧ t = .int .i64 (placeOf x.pushed v k) ∧ ∃ d, wr = w.drewN d) (fun _ i _ => x.pushed.length - (intOf i).toNat)
  case atStart => exact ⟨0, Nat.zero_le _, rfl, rfl, n1, rfl⟩
  case round =>
    obtain ⟨k, hk, rfl, rfl, d, rfl⟩ := hrel
    by_cases hlt : k < x.pushed.length
    · have hc := Hr.out k hlt
      have hk1 : decide ((k : Int) < (x.pushed.length : Int)) = true := decide_eq_true (by omega)
      have hk2 : decide (k < x.pushed.length) = true := decide_eq_true hlt
      by_cases he : lk x.pushed k = v
      · have hpk : placeOf x.pushed v (k + 1) = k := by unfold placeOf; rw [if_pos he]
        have hbe : (lk x.pushed k == v) = true := by rw [beq_iff_eq]; exact he
        have Hpk := hid hpk
        clear he hpk
        go_wp2_with fail
        go_roundw
        case rel => exact ⟨k + 1, by omega, by go_num, by rw [Hpk.out], _, rfl⟩
        case measure => simp [intOf]; omega
      · have hpk : placeOf x.pushed v (k + 1) = placeOf x.pushed v k := by rw [placeOf, if_neg he]
        have hbe : (lk x.pushed k == v) = false := by rw [beq_eq_false_iff_ne]; exact he
        have Hpk := hid hpk
        clear he hpk
        go_wp2_with fail
        go_roundw
        case rel => exact ⟨k + 1, by omega, by go_num, by rw [Hpk.out], _, rfl⟩
        case measure => simp [intOf]; omega
    · have hkn : k = x.pushed.length := by omega
      subst hkn
      have hk1 : decide ((x.pushed.length : Int) < (x.pushed.length : Int)) = false := decide_eq_false (by omega)
      rw [hpl]
      go_wp2_with fail
      refine Mix.wp_region_X S (fun i => ([1, 1, 1, 1, 1, 4, 1, 3, 3, 1, 1, 1, 4, 1, 3, 3, 0, 0, 2, 0, 0, 2] : List Nat).getD i 0) (by kernel_rfl) ?_
      refine Mix.wpX_world fun w5 hw5 => ?_
      have hR5 := (HR.out.drewN d).put 14 (.bool true)
      rw [← hw5] at hR5
      clear x0 gx0 x4 gx4 x5 gx5 x7 gx7 x8 gx8 x11 gx11 x14 gx14 x15 gx15 x16 gx16
      clear hw5
      have x0 : w5.cell? ⟨X, 0, none⟩ = some (.pointer (some ⟨fb, 0, none⟩)) := hR5.x.cell 0
      have gx0 := hR5.x.free 0
      have x4 : w5.cell? ⟨X, 4, none⟩ = some (.slice (some ⟨gp, 0, none⟩) x.pushed.length cp) := hR5.x.cell 4
      have gx4 := hR5.x.free 4
      have x5 : w5.cell? ⟨X, 5, none⟩ = some (.slice Ai x.items.length ci) := hR5.x.cell 5
      have gx5 := hR5.x.free 5
      have x7 : w5.cell? ⟨X, 7, none⟩ = some (.slice Ag x.got.length cg) := hR5.x.cell 7
      have gx7 := hR5.x.free 7
      have x8 : w5.cell? ⟨X, 8, none⟩ = some (.slice Al x.lags.length cl) := hR5.x.cell 8
      have gx8 := hR5.x.free 8
      have x11 : w5.cell? ⟨X, 11, none⟩ = some (.bool x.full) := hR5.x.cell 11
      have gx11 := hR5.x.free 11
      have x14 : w5.cell? ⟨X, 14, none⟩ = some (.bool true) := hR5.x.cell 14
      have gx14 := hR5.x.free 14
      have x15 : w5.cell? ⟨X, 15, none⟩ = some (.bool true) := hR5.x.cell 15
      have gx15 := hR5.x.free 15
      have x16 : w5.cell? ⟨X, 16, none⟩ = some (.bool true) := hR5.x.cell 16
      have gx16 := hR5.x.free 16
      have HR5 := hid hR5
      clear hR5
      refine Mix.wpX_prefix (fuel := 10) (by kernel_rfl) [0, 1, 2, 3, 4, 5, 6, 9, 10, 11, 12, 13] _ _ _ (by kernel_rfl) ?_
      repeat (first | (refine Mix.mix_q (by simp only [List.getElem?_toArray, List.getElem?_cons_zero, List.getElem?_cons_succ]; exact rfl) rfl ?_; go_big_quiet_step (fail); refine wpQuiet_nil ?_) | (refine Mix.mix_p (by simp only [List.getElem?_toArray, List.getElem?_cons_zero, List.getElem?_cons_succ]; exact rfl) rfl rfl ?_; go_big_quiet_step (fail); refine wpQuiet_nil ?_) | (refine Mix.mix_s (by simp only [List.getElem?_toArray, List.getElem?_cons_zero, List.getElem?_cons_succ]; exact rfl) rfl rfl ?_; go_big_quiet_step (fail); refine wpQuiet_nil ?_))
      intro f0
      refine Mix.wpX_world fun w6 hw6 => ?_
      have HR6 := hid (show RunW _ _ _ _ _ _ _ _ _ _ _ _ _ _ _ _ _ _ _ _ w6 by rw [hw6]; exact HR5.out.drewN f0)
      clear x0 gx0 x4 gx4 x5 gx5 x7 gx7 x8 gx8 x11 gx11 x14 gx14 x15 gx15 x16 gx16
      clear hw6 HR5
      refine Mix.wpX_two 7 14 (by kernel_rfl) ?_ ?_
      · refine Mix.mix_a (by simp only [List.getElem?_toArray, List.getElem?_cons_zero, List.getElem?_cons_succ]; exact rfl) rfl fun W23 hW23 => ?_
        obtain ⟨a23, rfl⟩ := hW23
        go_wp2_with fail
        refine ⟨fun j hj => Below.heap_alloc _ _ j (by rw [(HS.out j).1 hj]; exact HR6.out.x.lt), ?_⟩
        intro m23
        refine Mix.wpX_world fun u23 hu23 => ?_
        have c23 : Ch (fun _ => False) w6 u23 := by rw [hu23]; exact (((Ch.refl _ w6).drewN a23).alloc _).drewN m23
        have t7_23 : Blk u23 w6.heap.size 35 #[.int .u64 v] := by rw [hu23]; exact (Blk.new (w6.drewN a23) _ _).drewN m23
        have Hu23 := hid (HR6.out.keep c23)
        clear hu23 c23
        refine Mix.wpX_two 8 14 (by kernel_rfl) ?_ ?_
        · refine Mix.mix_a (by simp only [List.getElem?_toArray, List.getElem?_cons_zero, List.getElem?_cons_succ]; exact rfl) rfl fun W24 hW24 => ?_
          obtain ⟨a24, rfl⟩ := hW24
          have z24 := Hu23.out.bz
          refine wpList_app _ rfl _ _ 30 rfl B 35 i0 _ 1 8 Try.underlying30 hi hz0 hz1 hz2 rfl (by decide) _ _ _ rfl (Hu23.out.drewN a24).rg ⟨w6.heap.size, 0, none⟩ 1 1 [.int .u64 v] rfl rfl (fun j' u' hu => by rw [addr_add0]; exact ((t7_23.drewN a24).cell j').trans (by simpa using hu)) (fun u' hu => by simp at hu; subst hu; rfl) (by decide) (by unfold maxLen; omega) (by omega) z24 ?_
          intro v24 p24 hown24 hgrow24 hfresh24
          have r24 := (Hu23.out.drewN a24).appG (y := v) (by rw [u64V_snoc, List.length_append]; exact hown24) hgrow24 hfresh24
          have hkeep24 : Mix.Keep S u23 p24 := fun j hj => by rw [(HS.out j).1 hj]; exact r24.x.trans Hu23.out.x.symm
          obtain ⟨gg, cg2, rfl, _, _, _, _⟩ := own_form hown24 (by omega)
          have R24 := hid r24
          clear r24 hown24 hgrow24 hfresh24 z24 t7_23
          go_wp2_with fail
          refine ⟨hkeep24, ?_⟩
          clear hkeep24
          intro m24
          refine Mix.wpX_world fun u24 hu24 => ?_
          have Hu24 := hid (show RunW _ _ _ _ _ _ _ _ _ _ _ _ _ _ _ _ _ _ _ _ u24 by rw [hu24]; exact R24.out.drewN m24)
          clear hu24 R24
          refine Mix.wpX_prefix (fuel := 7) (by kernel_rfl) [14] _ _ _ (by kernel_rfl) ?_
          refine Mix.mix_a (by simp only [List.getElem?_toArray, List.getElem?_cons_zero, List.getElem?_cons_succ]; exact rfl) rfl fun W25 hW25 => ?_
          obtain ⟨a25, rfl⟩ := hW25
          go_wp2_with fail
          refine ⟨fun j hj => Below.heap_alloc _ _ j (by rw [(HS.out j).1 hj]; exact Hu24.out.x.lt), ?_⟩
          intro m25
          refine Mix.wpX_world fun u25 hu25 => ?_
          have c25 : Ch (fun _ => False) u24 u25 := by rw [hu25]; exact (((Ch.refl _ u24).drewN a25).alloc _).drewN m25
          have t14_25 : Blk u25 u24.heap.size 4 #[.bool true] := by rw [hu25]; exact (Blk.new (u24.drewN a25) _ _).drewN m25
          have Hu25 := hid (Hu24.out.keep c25)
          clear hu25 c25
          refine Mix.wpX_prefix (fuel := 6) (by kernel_rfl) [15] _ _ _ (by kernel_rfl) ?_
          refine Mix.mix_a (by simp only [List.getElem?_toArray, List.getElem?_cons_zero, List.getElem?_cons_succ]; exact rfl) rfl fun W26 hW26 => ?_
          obtain ⟨a26, rfl⟩ := hW26
          have z26 := Hu25.out.bz
          refine wpList_app _ rfl _ _ 31 rfl B 4 j0 _ 1 1 Try.underlying31 hj hy0 hy1 hy2 rfl (by decide) _ _ _ rfl (Hu25.out.drewN a26).rl ⟨u24.heap.size, 0, none⟩ 1 1 [.bool true] rfl rfl (fun j' u' hu => by rw [addr_add0]; exact ((t14_25.drewN a26).cell j').trans (by simpa using hu)) (fun u' hu => by simp at hu; subst hu; rfl) (by decide) (by unfold maxLen; omega) (by omega) z26 ?_
          intro v26 p26 hown26 hgrow26 hfresh26
          have r26 := (Hu25.out.drewN a26).appL (y := true) (by rw [boolV_snoc, List.length_append]; exact hown26) hgrow26 hfresh26
          have hkeep26 : Mix.Keep S u25 p26 := fun j hj => by rw [(HS.out j).1 hj]; exact r26.x.trans Hu25.out.x.symm
          obtain ⟨gl, cl2, rfl, _, _, _, _⟩ := own_form hown26 (by omega)
          have R26 := hid r26
          clear r26 hown26 hgrow26 hfresh26 z26 t14_25
          go_wp2_with fail
          refine ⟨hkeep26, ?_⟩
          clear hkeep26
          intro m26
          refine Mix.wpX_world fun u26 hu26 => ?_
          have Hu26 := hid (show RunW _ _ _ _ _ _ _ _ _ _ _ _ _ _ _ _ _ _ _ _ u26 by rw [hu26]; exact R26.out.drewN m26)
          clear hu26 R26
          refine Mix.wpX_prefix (fuel := 0) (by kernel_rfl) [16, 17, 18, 19, 20, 21] _ _ _ (by kernel_rfl) ?_
          have y7 : u26.cell? ⟨X, 7, none⟩ = some (.slice Ag x.got.length cg) := Hu26.out.x.cell 7
          have gy7 := Hu26.out.x.free 7
          have y8 : u26.cell? ⟨X, 8, none⟩ = some (.slice Al x.lags.length cl) := Hu26.out.x.cell 8
          have gy8 := Hu26.out.x.free 8
          iterate 2 (refine Mix.mix_q (by simp only [List.getElem?_toArray, List.getElem?_cons_zero, List.getElem?_cons_succ]; exact rfl) rfl ?_; go_big_quiet_step (fail); refine wpQuiet_nil ?_)
          refine Mix.mix_e (by simp only [List.getElem?_toArray, List.getElem?_cons_zero, List.getElem?_cons_succ]; exact rfl) rfl fun Y1 hY1 => ?_
          obtain ⟨e1, rfl⟩ := hY1
          go_wp2_with fail
          iterate 2 (refine Mix.mix_q (by simp only [List.getElem?_toArray, List.getElem?_cons_zero, List.getElem?_cons_succ]; exact rfl) rfl ?_; go_big_quiet_step (fail); refine wpQuiet_nil ?_)
          refine Mix.mix_e (by simp only [List.getElem?_toArray, List.getElem?_cons_zero, List.getElem?_cons_succ]; exact rfl) rfl fun Y2 hY2 => ?_
          obtain ⟨e2, rfl⟩ := hY2
          go_wp2_with fail
          intro e3
          refine Mix.wpX_world fun w9 hw9 => ?_
          have hR9 := (((((Hu26.out.drewN e1).put 7 (.slice (some ⟨gg, 0, none⟩) (x.got.length + 1) cg2)).drewN e2).put 8 (.slice (some ⟨gl, 0, none⟩) (x.lags.length + 1) cl2)).drewN e3)
          rw [← hw9] at hR9
          have hrb := row_cellB hR9.rl rfl
          have x0 : w9.cell? ⟨X, 0, none⟩ = some (.pointer (some ⟨fb, 0, none⟩)) := hR9.x.cell 0
          have x5 : w9.cell? ⟨X, 5, none⟩ = some (.slice Ai x.items.length ci) := hR9.x.cell 5
          have x7 : w9.cell? ⟨X, 7, none⟩ = some (.slice (some ⟨gg, 0, none⟩) ng cg2) := by rw [← Hng.out.1]; exact hR9.x.cell 7
          have x8 : w9.cell? ⟨X, 8, none⟩ = some (.slice (some ⟨gl, 0, none⟩) ng cl2) := by rw [← Hng.out.2]; exact hR9.x.cell 8
          have x11 : w9.cell? ⟨X, 11, none⟩ = some (.bool true) := by rw [← Hfull.out]; exact hR9.x.cell 11
          have x16 : w9.cell? ⟨X, 16, none⟩ = some (.bool true) := hR9.x.cell 16
          have HR9 := hid hR9
          have Hrb := hid hrb
          clear hR9 hw9 hrb y7 gy7 y8 gy8
          refine Mix.wpX_done (by kernel_rfl) ?_
          intro e4
          go_wp2_with fail
          go_loopw [9, 10] (fun t i wr => ∃ k : Nat, k ≤ ng ∧ i = .int .i64 k ∧ t = .int .i64 (nolag ((x.lags ++ [true]).take k)) ∧ ∃ d, wr = w9.drewN d) (fun _ i _ => ng - (intOf i).toNat)
          case atStart => exact ⟨0, Nat.zero_le _, rfl, by simp [nolag], _, rfl⟩
          case round =>
            obtain ⟨k, hk, rfl, rfl, d2, rfl⟩ := hrel
            by_cases hlt : k < ng
            · have hc := Hrb.out k (by rw [List.length_append, List.length_singleton]; have := Hng.out.2; omega)
              have hk1 : decide ((k : Int) < (ng : Int)) = true := decide_eq_true (by omega)
              have htk := nolag_take (x.lags ++ [true]) k (by rw [List.length_append, List.length_singleton]; have := Hng.out.2; omega)
              have hnl := nolag_le ((x.lags ++ [true]).take k)
              rw [List.length_take] at hnl
              obtain ⟨c, hcc⟩ : ∃ c, nolag ((x.lags ++ [true]).take k) = c := ⟨_, rfl⟩
              rw [hcc] at htk hnl ⊢
              have hcs : c ≤ 3000 := by omega
              clear hcc hnl
              by_cases hb : lb (x.lags ++ [true]) k = true
              · rw [hb] at hc htk
                have Htk := hid htk
                clear htk hb
                go_wp2_with fail
                go_roundw
                case rel => exact ⟨k + 1, by omega, by go_num, by rw [Htk.out]; rfl, _, rfl⟩
                case measure => simp [intOf]; omega
              · have hb' : lb (x.lags ++ [true]) k = false := by simpa using hb
                rw [hb'] at hc htk
                have Htk := hid htk
                clear htk hb hb'
                go_wp2_with fail
                go_roundw
                case rel => exact ⟨k + 1, by omega, by go_num, by rw [Htk.out]; simp, _, rfl⟩
                case measure => simp [intOf]; omega
            · have hkn : k = ng := by omega
              subst hkn
              have hk1 : decide ((k : Int) < (k : Int)) = false := decide_eq_false (by omega)
              rw [show nolag ((x.lags ++ [true]).take k) = x.items.length by rw [List.take_of_length_le (by rw [List.length_append, List.length_singleton]; have := Hng.out.2; omega), nolag_snoc, Hnl.out]; rfl]
              have hie : ((x.items.length : Int) == (x.items.length : Int)) = true := by rw [beq_iff_eq]
              go_wp2_with fail
              refine (flist_any B p cb fb _ x.s x.f _ (HR9.out.drewN _).fm H T HHT.out.1 HHT.out.2.1 HHT.out.2.2.1 HHT.out.2.2.2).mono ?_
              rintro e w10 ⟨v10, rfl, hrow10, hc10⟩
              rw [flist_length, Hfl.out] at hrow10
              obtain ⟨a10, c10, rfl, _⟩ := own_slice hrow10
              have hR10 := (HR9.out.drewN _).keep hc10
              clear x0 x5 x7 x8 x11 x16 hrow10 hc10
              have x16 : w10.cell? ⟨X, 16, none⟩ = some (.bool true) := hR10.x.cell 16
              have gx16 := hR10.x.free 16
              have x11 : w10.cell? ⟨X, 11, none⟩ = some (.bool x.full) := hR10.x.cell 11
              have gx11 := hR10.x.free 11
              have HR10 := hid hR10
              clear hR10
              go_wp2_with fail
              go_end0
              refine ⟨rfl, ?_⟩
              exact runX_mk (x := x.gotV v true) ((HR10.out.put 16 (.bool true)).put 11 (.bool false)) pb rb rfl rfl (by simp [xCells, Xs.gotV]) rfl rfl rfl rfl rfl rfl
        · refine Mix.mix_a (by simp only [List.getElem?_toArray, List.getElem?_cons_zero, List.getElem?_cons_succ]; exact rfl) rfl fun W27 hW27 => ?_
          obtain ⟨a27, rfl⟩ := hW27
          go_wp2_with fail
          refine ⟨fun j hj => Below.heap_alloc _ _ j (by rw [(HS.out j).1 hj]; exact Hu23.out.x.lt), ?_⟩
          intro m27
          refine Mix.wpX_world fun u27 hu27 => ?_
          have c27 : Ch (fun _ => False) u23 u27 := by rw [hu27]; exact (((Ch.refl _ u23).drewN a27).alloc _).drewN m27
          have t14_27 : Blk u27 u23.heap.size 4 #[.bool true] := by rw [hu27]; exact (Blk.new (u23.drewN a27) _ _).drewN m27
          have Hu27 := hid (Hu23.out.keep c27)
          have t7_27 := c27.blk t7_23 id
          clear hu27 c27
          refine Mix.wpX_prefix (fuel := 7) (by kernel_rfl) [8] _ _ _ (by kernel_rfl) ?_
          refine Mix.mix_a (by simp only [List.getElem?_toArray, List.getElem?_cons_zero, List.getElem?_cons_succ]; exact rfl) rfl fun W28 hW28 => ?_
          obtain ⟨a28, rfl⟩ := hW28
          have z28 := Hu27.out.bz
          refine wpList_app _ rfl _ _ 30 rfl B 35 i0 _ 1 8 Try.underlying30 hi hz0 hz1 hz2 rfl (by decide) _ _ _ rfl (Hu27.out.drewN a28).rg ⟨w6.heap.size, 0, none⟩ 1 1 [.int .u64 v] rfl rfl (fun j' u' hu => by rw [addr_add0]; exact ((t7_27.drewN a28).cell j').trans (by simpa using hu)) (fun u' hu => by simp at hu; subst hu; rfl) (by decide) (by unfold maxLen; omega) (by omega) z28 ?_
          intro v28 p28 hown28 hgrow28 hfresh28
          have r28 := (Hu27.out.drewN a28).appG (y := v) (by rw [u64V_snoc, List.length_append]; exact hown28) hgrow28 hfresh28
          have hkeep28 : Mix.Keep S u27 p28 := fun j hj => by rw [(HS.out j).1 hj]; exact r28.x.trans Hu27.out.x.symm
          have tq28 := (t14_27.drewN a28).grown hgrow28 ((t14_27.drewN a28).own (Hu27.out.drewN a28).rg (by decide))
          obtain ⟨gg, cg2, rfl, _, _, _, _⟩ := own_form hown28 (by omega)
          have R28 := hid r28
          clear r28 hown28 hgrow28 hfresh28 z28 t7_27
          go_wp2_with fail
          refine ⟨hkeep28, ?_⟩
          clear hkeep28
          intro m28
          refine Mix.wpX_world fun u28 hu28 => ?_
          have Hu28 := hid (show RunW _ _ _ _ _ _ _ _ _ _ _ _ _ _ _ _ _ _ _ _ u28 by rw [hu28]; exact R28.out.drewN m28)
          have t14_28 : Blk u28 u23.heap.size 4 #[.bool true] := by rw [hu28]; exact tq28.drewN m28
          clear tq28
          clear hu28 R28
          refine Mix.wpX_prefix (fuel := 6) (by kernel_rfl) [15] _ _ _ (by kernel_rfl) ?_
          refine Mix.mix_a (by simp only [List.getElem?_toArray, List.getElem?_cons_zero, List.getElem?_cons_succ]; exact rfl) rfl fun W29 hW29 => ?_
          obtain ⟨a29, rfl⟩ := hW29
          have z29 := Hu28.out.bz
          refine wpList_app _ rfl _ _ 31 rfl B 4 j0 _ 1 1 Try.underlying31 hj hy0 hy1 hy2 rfl (by decide) _ _ _ rfl (Hu28.out.drewN a29).rl ⟨u23.heap.size, 0, none⟩ 1 1 [.bool true] rfl rfl (fun j' u' hu => by rw [addr_add0]; exact ((t14_28.drewN a29).cell j').trans (by simpa using hu)) (fun u' hu => by simp at hu; subst hu; rfl) (by decide) (by unfold maxLen; omega) (by omega) z29 ?_
          intro v29 p29 hown29 hgrow29 hfresh29
          have r29 := (Hu28.out.drewN a29).appL (y := true) (by rw [boolV_snoc, List.length_append]; exact hown29) hgrow29 hfresh29
          have hkeep29 : Mix.Keep S u28 p29 := fun j hj => by rw [(HS.out j).1 hj]; exact r29.x.trans Hu28.out.x.symm
          obtain ⟨gl, cl2, rfl, _, _, _, _⟩ := own_form hown29 (by omega)
          have R29 := hid r29
          clear r29 hown29 hgrow29 hfresh29 z29 t14_28
          go_wp2_with fail
          refine ⟨hkeep29, ?_⟩
          clear hkeep29
          intro m29
          refine Mix.wpX_world fun u29 hu29 => ?_
          have Hu29 := hid (show RunW _ _ _ _ _ _ _ _ _ _ _ _ _ _ _ _ _ _ _ _ u29 by rw [hu29]; exact R29.out.drewN m29)
          clear hu29 R29
          refine Mix.wpX_prefix (fuel := 0) (by kernel_rfl) [16, 17, 18, 19, 20, 21] _ _ _ (by kernel_rfl) ?_
          have y7 : u29.cell? ⟨X, 7, none⟩ = some (.slice Ag x.got.length cg) := Hu29.out.x.cell 7
          have gy7 := Hu29.out.x.free 7
          have y8 : u29.cell? ⟨X, 8, none⟩ = some (.slice Al x.lags.length cl) := Hu29.out.x.cell 8
          have gy8 := Hu29.out.x.free 8
          iterate 2 (refine Mix.mix_q (by simp only [List.getElem?_toArray, List.getElem?_cons_zero, List.getElem?_cons_succ]; exact rfl) rfl ?_; go_big_quiet_step (fail); refine wpQuiet_nil ?_)
          refine Mix.mix_e (by simp only [List.getElem?_toArray, List.getElem?_cons_zero, List.getElem?_cons_succ]; exact rfl) rfl fun Y1 hY1 => ?_
          obtain ⟨e1, rfl⟩ := hY1
          go_wp2_with fail
          iterate 2 (refine Mix.mix_q (by simp only [List.getElem?_toArray, List.getElem?_cons_zero, List.getElem?_cons_succ]; exact rfl) rfl ?_; go_big_quiet_step (fail); refine wpQuiet_nil ?_)
          refine Mix.mix_e (by simp only [List.getElem?_toArray, List.getElem?_cons_zero, List.getElem?_cons_succ]; exact rfl) rfl fun Y2 hY2 => ?_
          obtain ⟨e2, rfl⟩ := hY2
          go_wp2_with fail
          intro e3
          refine Mix.wpX_world fun w9 hw9 => ?_
          have hR9 := (((((Hu29.out.drewN e1).put 7 (.slice (some ⟨gg, 0, none⟩) (x.got.length + 1) cg2)).drewN e2).put 8 (.slice (some ⟨gl, 0, none⟩) (x.lags.length + 1) cl2)).drewN e3)
          rw [← hw9] at hR9
          have hrb := row_cellB hR9.rl rfl
          have x0 : w9.cell? ⟨X, 0, none⟩ = some (.pointer (some ⟨fb, 0, none⟩)) := hR9.x.cell 0
          have x5 : w9.cell? ⟨X, 5, none⟩ = some (.slice Ai x.items.length ci) := hR9.x.cell 5
          have x7 : w9.cell? ⟨X, 7, none⟩ = some (.slice (some ⟨gg, 0, none⟩) ng cg2) := by rw [← Hng.out.1]; exact hR9.x.cell 7
          have x8 : w9.cell? ⟨X, 8, none⟩ = some (.slice (some ⟨gl, 0, none⟩) ng cl2) := by rw [← Hng.out.2]; exact hR9.x.cell 8
          have x11 : w9.cell? ⟨X, 11, none⟩ = some (.bool true) := by rw [← Hfull.out]; exact hR9.x.cell 11
          have x16 : w9.cell? ⟨X, 16, none⟩ = some (.bool true) := hR9.x.cell 16
          have HR9 := hid hR9
          have Hrb := hid hrb
          clear hR9 hw9 hrb y7 gy7 y8 gy8
          refine Mix.wpX_done (by kernel_rfl) ?_
          intro e4
          go_wp2_with fail
          go_loopw [9, 10] (fun t i wr => ∃ k : Nat, k ≤ ng ∧ i = .int .i64 k ∧ t = .int .i64 (nolag ((x.lags ++ [true]).take k)) ∧ ∃ d, wr = w9.drewN d) (fun _ i _ => ng - (intOf i).toNat)
          case atStart => exact ⟨0, Nat.zero_le _, rfl, by simp [nolag], _, rfl⟩
          case round =>
            obtain ⟨k, hk, rfl, rfl, d2, rfl⟩ := hrel
            by_cases hlt : k < ng
            · have hc := Hrb.out k (by rw [List.length_append, List.length_singleton]; have := Hng.out.2; omega)
              have hk1 : decide ((k : Int) < (ng : Int)) = true := decide_eq_true (by omega)
              have htk := nolag_take (x.lags ++ [true]) k (by rw [List.length_append, List.length_singleton]; have := Hng.out.2; omega)
              have hnl := nolag_le ((x.lags ++ [true]).take k)
              rw [List.length_take] at hnl
              obtain ⟨c, hcc⟩ : ∃ c, nolag ((x.lags ++ [true]).take k) = c := ⟨_, rfl⟩
              rw [hcc] at htk hnl ⊢
              have hcs : c ≤ 3000 := by omega
              clear hcc hnl
              by_cases hb : lb (x.lags ++ [true]) k = true
              · rw [hb] at hc htk
                have Htk := hid htk
                clear htk hb
                go_wp2_with fail
                go_roundw
                case rel => exact ⟨k + 1, by omega, by go_num, by rw [Htk.out]; rfl, _, rfl⟩
                case measure => simp [intOf]; omega
              · have hb' : lb (x.lags ++ [true]) k = false := by simpa using hb
                rw [hb'] at hc htk
                have Htk := hid htk
                clear htk hb hb'
                go_wp2_with fail
                go_roundw
                case rel => exact ⟨k + 1, by omega, by go_num, by rw [Htk.out]; simp, _, rfl⟩
                case measure => simp [intOf]; omega
            · have hkn : k = ng := by omega
              subst hkn
              have hk1 : decide ((k : Int) < (k : Int)) = false := decide_eq_false (by omega)
              rw [show nolag ((x.lags ++ [true]).take k) = x.items.length by rw [List.take_of_length_le (by rw [List.length_append, List.length_singleton]; have := Hng.out.2; omega), nolag_snoc, Hnl.out]; rfl]
              have hie : ((x.items.length : Int) == (x.items.length : Int)) = true := by rw [beq_iff_eq]
              go_wp2_with fail
              refine (flist_any B p cb fb _ x.s x.f _ (HR9.out.drewN _).fm H T HHT.out.1 HHT.out.2.1 HHT.out.2.2.1 HHT.out.2.2.2).mono ?_
              rintro e w10 ⟨v10, rfl, hrow10, hc10⟩
              rw [flist_length, Hfl.out] at hrow10
              obtain ⟨a10, c10, rfl, _⟩ := own_slice hrow10
              have hR10 := (HR9.out.drewN _).keep hc10
              clear x0 x5 x7 x8 x11 x16 hrow10 hc10
              have x16 : w10.cell? ⟨X, 16, none⟩ = some (.bool true) := hR10.x.cell 16
              have gx16 := hR10.x.free 16
              have x11 : w10.cell? ⟨X, 11, none⟩ = some (.bool x.full) := hR10.x.cell 11
              have gx11 := hR10.x.free 11
              have HR10 := hid hR10
              clear hR10
              go_wp2_with fail
              go_end0
              refine ⟨rfl, ?_⟩
              exact runX_mk (x := x.gotV v true) ((HR10.out.put 16 (.bool true)).put 11 (.bool false)) pb rb rfl rfl (by simp [xCells, Xs.gotV]) rfl rfl rfl rfl rfl rfl
      · refine Mix.mix_a (by simp only [List.getElem?_toArray, List.getElem?_cons_zero, List.getElem?_cons_succ]; exact rfl) rfl fun W30 hW30 => ?_
        obtain ⟨a30, rfl⟩ := hW30
        go_wp2_with fail
        refine ⟨fun j hj => Below.heap_alloc _ _ j (by rw [(HS.out j).1 hj]; exact HR6.out.x.lt), ?_⟩
        intro m30
        refine Mix.wpX_world fun u30 hu30 => ?_
        have c30 : Ch (fun _ => False) w6 u30 := by rw [hu30]; exact (((Ch.refl _ w6).drewN a30).alloc _).drewN m30
        have t14_30 : Blk u30 w6.heap.size 4 #[.bool true] := by rw [hu30]; exact (Blk.new (w6.drewN a30) _ _).drewN m30
        have Hu30 := hid (HR6.out.keep c30)
        clear hu30 c30
        refine Mix.wpX_prefix (fuel := 8) (by kernel_rfl) [7] _ _ _ (by kernel_rfl) ?_
        refine Mix.mix_a (by simp only [List.getElem?_toArray, List.getElem?_cons_zero, List.getElem?_cons_succ]; exact rfl) rfl fun W31 hW31 => ?_
        obtain ⟨a31, rfl⟩ := hW31
        go_wp2_with fail
        refine ⟨fun j hj => Below.heap_alloc _ _ j (by rw [(HS.out j).1 hj]; exact Hu30.out.x.lt), ?_⟩
        intro m31
        refine Mix.wpX_world fun u31 hu31 => ?_
        have c31 : Ch (fun _ => False) u30 u31 := by rw [hu31]; exact (((Ch.refl _ u30).drewN a31).alloc _).drewN m31
        have t7_31 : Blk u31 u30.heap.size 35 #[.int .u64 v] := by rw [hu31]; exact (Blk.new (u30.drewN a31) _ _).drewN m31
        have Hu31 := hid (Hu30.out.keep c31)
        have t14_31 := c31.blk t14_30 id
        clear hu31 c31
        refine Mix.wpX_prefix (fuel := 7) (by kernel_rfl) [8] _ _ _ (by kernel_rfl) ?_
        refine Mix.mix_a (by simp only [List.getElem?_toArray, List.getElem?_cons_zero, List.getElem?_cons_succ]; exact rfl) rfl fun W32 hW32 => ?_
        obtain ⟨a32, rfl⟩ := hW32
        have z32 := Hu31.out.bz
        refine wpList_app _ rfl _ _ 30 rfl B 35 i0 _ 1 8 Try.underlying30 hi hz0 hz1 hz2 rfl (by decide) _ _ _ rfl (Hu31.out.drewN a32).rg ⟨u30.heap.size, 0, none⟩ 1 1 [.int .u64 v] rfl rfl (fun j' u' hu => by rw [addr_add0]; exact ((t7_31.drewN a32).cell j').trans (by simpa using hu)) (fun u' hu => by simp at hu; subst hu; rfl) (by decide) (by unfold maxLen; omega) (by omega) z32 ?_
        intro v32 p32 hown32 hgrow32 hfresh32
        have r32 := (Hu31.out.drewN a32).appG (y := v) (by rw [u64V_snoc, List.length_append]; exact hown32) hgrow32 hfresh32
        have hkeep32 : Mix.Keep S u31 p32 := fun j hj => by rw [(HS.out j).1 hj]; exact r32.x.trans Hu31.out.x.symm
        have tq32 := (t14_31.drewN a32).grown hgrow32 ((t14_31.drewN a32).own (Hu31.out.drewN a32).rg (by decide))
        obtain ⟨gg, cg2, rfl, _, _, _, _⟩ := own_form hown32 (by omega)
        have R32 := hid r32
        clear r32 hown32 hgrow32 hfresh32 z32 t7_31
        go_wp2_with fail
        refine ⟨hkeep32, ?_⟩
        clear hkeep32
        intro m32
        refine Mix.wpX_world fun u32 hu32 => ?_
        have Hu32 := hid (show RunW _ _ _ _ _ _ _ _ _ _ _ _ _ _ _ _ _ _ _ _ u32 by rw [hu32]; exact R32.out.drewN m32)
        have t14_32 : Blk u32 w6.heap.size 4 #[.bool true] := by rw [hu32]; exact tq32.drewN m32
        clear tq32
        clear hu32 R32
        refine Mix.wpX_prefix (fuel := 6) (by kernel_rfl) [15] _ _ _ (by kernel_rfl) ?_
        refine Mix.mix_a (by simp only [List.getElem?_toArray, List.getElem?_cons_zero, List.getElem?_cons_succ]; exact rfl) rfl fun W33 hW33 => ?_
        obtain ⟨a33, rfl⟩ := hW33
        have z33 := Hu32.out.bz
        refine wpList_app _ rfl _ _ 31 rfl B 4 j0 _ 1 1 Try.underlying31 hj hy0 hy1 hy2 rfl (by decide) _ _ _ rfl (Hu32.out.drewN a33).rl ⟨w6.heap.size, 0, none⟩ 1 1 [.bool true] rfl rfl (fun j' u' hu => by rw [addr_add0]; exact ((t14_32.drewN a33).cell j').trans (by simpa using hu)) (fun u' hu => by simp at hu; subst hu; rfl) (by decide) (by unfold maxLen; omega) (by omega) z33 ?_
        intro v33 p33 hown33 hgrow33 hfresh33
        have r33 := (Hu32.out.drewN a33).appL (y := true) (by rw [boolV_snoc, List.length_append]; exact hown33) hgrow33 hfresh33
        have hkeep33 : Mix.Keep S u32 p33 := fun j hj => by rw [(HS.out j).1 hj]; exact r33.x.trans Hu32.out.x.symm
        obtain ⟨gl, cl2, rfl, _, _, _, _⟩ := own_form hown33 (by omega)
        have R33 := hid r33
        clear r33 hown33 hgrow33 hfresh33 z33 t14_32
        go_wp2_with fail
        refine ⟨hkeep33, ?_⟩
        clear hkeep33
        intro m33
        refine Mix.wpX_world fun u33 hu33 => ?_
        have Hu33 := hid (show RunW _ _ _ _ _ _ _ _ _ _ _ _ _ _ _ _ _ _ _ _ u33 by rw [hu33]; exact R33.out.drewN m33)
        clear hu33 R33
        refine Mix.wpX_prefix (fuel := 0) (by kernel_rfl) [16, 17, 18, 19, 20, 21] _ _ _ (by kernel_rfl) ?_
        have y7 : u33.cell? ⟨X, 7, none⟩ = some (.slice Ag x.got.length cg) := Hu33.out.x.cell 7
        have gy7 := Hu33.out.x.free 7
        have y8 : u33.cell? ⟨X, 8, none⟩ = some (.slice Al x.lags.length cl) := Hu33.out.x.cell 8
        have gy8 := Hu33.out.x.free 8
        iterate 2 (refine Mix.mix_q (by simp only [List.getElem?_toArray, List.getElem?_cons_zero, List.getElem?_cons_succ]; exact rfl) rfl ?_; go_big_quiet_step (fail); refine wpQuiet_nil ?_)
        refine Mix.mix_e (by simp only [List.getElem?_toArray, List.getElem?_cons_zero, List.getElem?_cons_succ]; exact rfl) rfl fun Y1 hY1 => ?_
        obtain ⟨e1, rfl⟩ := hY1
        go_wp2_with fail
        iterate 2 (refine Mix.mix_q (by simp only [List.getElem?_toArray, List.getElem?_cons_zero, List.getElem?_cons_succ]; exact rfl) rfl ?_; go_big_quiet_step (fail); refine wpQuiet_nil ?_)
        refine Mix.mix_e (by simp only [List.getElem?_toArray, List.getElem?_cons_zero, List.getElem?_cons_succ]; exact rfl) rfl fun Y2 hY2 => ?_
        obtain ⟨e2, rfl⟩ := hY2
        go_wp2_with fail
        intro e3
        refine Mix.wpX_world fun w9 hw9 => ?_
        have hR9 := (((((Hu33.out.drewN e1).put 7 (.slice (some ⟨gg, 0, none⟩) (x.got.length + 1) cg2)).drewN e2).put 8 (.slice (some ⟨gl, 0, none⟩) (x.lags.length + 1) cl2)).drewN e3)
        rw [← hw9] at hR9
        have hrb := row_cellB hR9.rl rfl
        have x0 : w9.cell? ⟨X, 0, none⟩ = some (.pointer (some ⟨fb, 0, none⟩)) := hR9.x.cell 0
        have x5 : w9.cell? ⟨X, 5, none⟩ = some (.slice Ai x.items.length ci) := hR9.x.cell 5
        have x7 : w9.cell? ⟨X, 7, none⟩ = some (.slice (some ⟨gg, 0, none⟩) ng cg2) := by rw [← Hng.out.1]; exact hR9.x.cell 7
        have x8 : w9.cell? ⟨X, 8, none⟩ = some (.slice (some ⟨gl, 0, none⟩) ng cl2) := by rw [← Hng.out.2]; exact hR9.x.cell 8
        have x11 : w9.cell? ⟨X, 11, none⟩ = some (.bool true) := by rw [← Hfull.out]; exact hR9.x.cell 11
        have x16 : w9.cell? ⟨X, 16, none⟩ = some (.bool true) := hR9.x.cell 16
        have HR9 := hid hR9
        have Hrb := hid hrb
        clear hR9 hw9 hrb y7 gy7 y8 gy8
        refine Mix.wpX_done (by kernel_rfl) ?_
        intro e4
        go_wp2_with fail
        go_loopw [9, 10] (fun t i wr => ∃ k : Nat, k ≤ ng ∧ i = .int .i64 k ∧ t = .int .i64 (nolag ((x.lags ++ [true]).take k)) ∧ ∃ d, wr = w9.drewN d) (fun _ i _ => ng - (intOf i).toNat)
        case atStart => exact ⟨0, Nat.zero_le _, rfl, by simp [nolag], _, rfl⟩
        case round =>
          obtain ⟨k, hk, rfl, rfl, d2, rfl⟩ := hrel
          by_cases hlt : k < ng
          · have hc := Hrb.out k (by rw [List.length_append, List.length_singleton]; have := Hng.out.2; omega)
            have hk1 : decide ((k : Int) < (ng : Int)) = true := decide_eq_true (by omega)
            have htk := nolag_take (x.lags ++ [true]) k (by rw [List.length_append, List.length_singleton]; have := Hng.out.2; omega)
            have hnl := nolag_le ((x.lags ++ [true]).take k)
            rw [List.length_take] at hnl
            obtain ⟨c, hcc⟩ : ∃ c, nolag ((x.lags ++ [true]).take k) = c := ⟨_, rfl⟩
            rw [hcc] at htk hnl ⊢
            have hcs : c ≤ 3000 := by omega
            clear hcc hnl
            by_cases hb : lb (x.lags ++ [true]) k = true
            · rw [hb] at hc htk
              have Htk := hid htk
              clear htk hb
              go_wp2_with fail
              go_roundw
              case rel => exact ⟨k + 1, by omega, by go_num, by rw [Htk.out]; rfl, _, rfl⟩
              case measure => simp [intOf]; omega
            · have hb' : lb (x.lags ++ [true]) k = false := by simpa using hb
              rw [hb'] at hc htk
              have Htk := hid htk
              clear htk hb hb'
              go_wp2_with fail
              go_roundw
              case rel => exact ⟨k + 1, by omega, by go_num, by rw [Htk.out]; simp, _, rfl⟩
              case measure => simp [intOf]; omega
          · have hkn : k = ng := by omega
            subst hkn
            have hk1 : decide ((k : Int) < (k : Int)) = false := decide_eq_false (by omega)
            rw [show nolag ((x.lags ++ [true]).take k) = x.items.length by rw [List.take_of_length_le (by rw [List.length_append, List.length_singleton]; have := Hng.out.2; omega), nolag_snoc, Hnl.out]; rfl]
            have hie : ((x.items.length : Int) == (x.items.length : Int)) = true := by rw [beq_iff_eq]
            go_wp2_with fail
            refine (flist_any B p cb fb _ x.s x.f _ (HR9.out.drewN _).fm H T HHT.out.1 HHT.out.2.1 HHT.out.2.2.1 HHT.out.2.2.2).mono ?_
            rintro e w10 ⟨v10, rfl, hrow10, hc10⟩
            rw [flist_length, Hfl.out] at hrow10
            obtain ⟨a10, c10, rfl, _⟩ := own_slice hrow10
            have hR10 := (HR9.out.drewN _).keep hc10
            clear x0 x5 x7 x8 x11 x16 hrow10 hc10
            have x16 : w10.cell? ⟨X, 16, none⟩ = some (.bool true) := hR10.x.cell 16
            have gx16 := hR10.x.free 16
            have x11 : w10.cell? ⟨X, 11, none⟩ = some (.bool x.full) := hR10.x.cell 11
            have gx11 := hR10.x.free 11
            have HR10 := hid hR10
            clear hR10
            go_wp2_with fail
            go_end0
            refine ⟨rfl, ?_⟩
            exact runX_mk (x := x.gotV v true) ((HR10.out.put 16 (.bool true)).put 11 (.bool false)) pb rb rfl rfl (by simp [xCells, Xs.gotV]) rfl rfl rfl rfl rfl rfl

theorem got_any (B p cb fb X : Nat) (x : Xs) (v : Int) (lagged : Bool) (H T : Nat) (w0 w : World) (hX : RunX B p cb fb X x w0 w) (hlen : x.pushed.length ≤ 2000 ∧ x.items.length ≤ 2000 ∧ x.got.length ≤ 2000 ∧ x.lags.length = x.got.length)
    (hHT : cHead x.s x.f = (H : Nat) ∧ cTail x.s x.f = (T : Nat) ∧ H ≤ T ∧ T ≤ 1000000) (hG : GotF x v lagged) :
    Calls Try.prog 19 #[.pointer (some ⟨X, 0, none⟩), .int .u64 v, .bool lagged] w fun e w' => e = .returned (.tuple #[]) ∧ RunX B p cb fb X (x.gotV v lagged) w0 w' := by
  obtain ⟨hv, at_, hpl, hat, h1, h2⟩ := hG
  have hlen' := (⟨hlen.1, hlen.2.1, hlen.2.2.1, by omega⟩ : x.pushed.length ≤ 2000 ∧ x.items.length ≤ 2000 ∧ x.got.length ≤ 2000 ∧ x.lags.length ≤ 2000)
  cases lagged
  · rcases h1 rfl with ⟨c1, c2⟩ | ⟨c1, c2⟩
    · exact got_f0 B p cb fb X x v at_ H T w0 w hX hlen' hHT hv hpl hat c1 c2
    · exact got_f1 B p cb fb X x v at_ H T w0 w hX hlen' hHT hv hpl hat c1 c2
  · obtain ⟨c1, c2, c3⟩ := h2 rfl
    exact got_t B p cb fb X x v at_ H T w0 w hX hlen' hHT hv hpl hat hlen.2.2.2 c1 c2 c3
end Go.Proofs.Ytonjbofdmmnpdaa
