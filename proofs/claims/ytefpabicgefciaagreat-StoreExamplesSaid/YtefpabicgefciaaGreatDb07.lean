/- Texts XComp for XChE, by trim.py. -/
import Derived.Test.YtefpabicgefciaaGreatDb06
namespace Go.Proofs.YtefpabicgefciaaGreat
open Go.RowKit
set_option linter.unusedVariables false
set_option linter.unusedSimpArgs false
set_option linter.unusedSectionVars false
set_option maxRecDepth 100000 in
theorem long_any (x : Pc) (w : World) (h0 : 0 ≤ x.n) (h1 : x.n ≤ 2000000) (h2 : x.s.size ≤ 2000000) : Calls Tryz.prog 141 #[x.agg] w fun e w' => e = .returned (.int .i64 (Dl.long x)) ∧ Ch (fun _ => False) w w' := by
  unfold Pc.agg
  go_enter Tryz.func141, Tryz.ntmps141
  go_wp2_with fail
  go_ret
  exact ⟨rfl, (Ch.refl _ w).alloc _⟩
set_option maxRecDepth 100000 in
set_option maxHeartbeats 2000000 in
theorem split_any (x : Pc) (n : Nat) (w : World) (h0 : 0 ≤ x.n) (h1 : x.n ≤ 2000000) (h2 : x.s.size ≤ 2000000) (hn : x.k = 2 → n ≤ x.s.size) (hn2 : n ≤ 2000000) : Calls Tryz.prog 168 #[x.agg, .int .i64 (n : Int)] w fun e w' => e = .returned (.tuple #[(Dl.cut1 x n).agg, (Dl.cut2 x n).agg]) ∧ Ch (fun _ => False) w w' := by
  rw [show x.agg = .agg #[.int .u8 x.k, .int .i64 x.n, .string x.s] from rfl]
  go_enter Tryz.func168, Tryz.ntmps168
  go_wp2_with fail
  refine at_world fun W1 hW1 => ?_
  obtain ⟨bx, hbx⟩ : ∃ b, b = w.heap.size := ⟨_, rfl⟩
  obtain ⟨r4, hr4⟩ : ∃ b, b = w.heap.size + 1 := ⟨_, rfl⟩
  obtain ⟨r5, hr5⟩ : ∃ b, b = w.heap.size + 1 + 1 := ⟨_, rfl⟩
  have MA := hid (show Mem w.heap.size w ([blkR bx 128 #[.int .u8 x.k, .int .i64 x.n, .string x.s], blkR r4 128 #[.int .u8 0, .int .i64 0, .string ⟨#[]⟩], blkR r5 128 #[.int .u8 0, .int .i64 0, .string ⟨#[]⟩]]) W1 from by
    have m0 : Mem w.heap.size w [] w := Mem.nil (Nat.le_refl _) (Below.refl _ w)
    have m1 := m0.add (blkR w.heap.size 128 #[.int .u8 x.k, .int .i64 x.n, .string x.s]) ((Ch.refl (fun _ => False) w).alloc (.cells #[.int .u8 x.k, .int .i64 x.n, .string x.s] 128)) (Blk.new w _ _) (fun k e => Nat.le_of_eq e.symm)
    have m2 := m1.add (blkR (w.alloc (.cells #[.int .u8 x.k, .int .i64 x.n, .string x.s] 128)).heap.size 128 #[.int .u8 0, .int .i64 0, .string ⟨#[]⟩]) ((Ch.refl (fun _ => False) _).alloc (.cells #[.int .u8 0, .int .i64 0, .string ⟨#[]⟩] 128)) (Blk.new _ _ _) (fun k e => Nat.le_of_eq e.symm)
    have m3 := m2.add (blkR ((w.alloc (.cells #[.int .u8 x.k, .int .i64 x.n, .string x.s] 128)).alloc (.cells #[.int .u8 0, .int .i64 0, .string ⟨#[]⟩] 128)).heap.size 128 #[.int .u8 0, .int .i64 0, .string ⟨#[]⟩]) ((Ch.refl (fun _ => False) _).alloc (.cells #[.int .u8 0, .int .i64 0, .string ⟨#[]⟩] 128)) (Blk.new _ _ _) (fun k e => Nat.le_of_eq e.symm)
    rw [hW1, hbx, hr4, hr5]
    simp only [List.nil_append, List.cons_append, World.alloc, Array.size_push] at m3 ⊢
    exact m3)
  rw [← hr5, ← hr4, ← hbx]
  clear hW1 hbx hr4 hr5
  obtain ⟨S, hS⟩ : ∃ S : Nat → Prop, ∀ k, S k ↔ (k = bx) := ⟨_, fun _ => Iff.rfl⟩
  have hS0 : Mix.Has S bx := (hS _).2 (rfl)
  have HS := hid hS
  clear hS
  have lbx := Blk.lt (MA.out.each 0 _ rfl)
  have q0 : W1.cell? ⟨bx, 0, none⟩ = some (.int .u8 x.k) := Blk.cell (MA.out.each 0 _ rfl) 0
  have q1 : W1.cell? ⟨bx, 1, none⟩ = some (.int .i64 x.n) := Blk.cell (MA.out.each 0 _ rfl) 1
  have q2 : W1.cell? ⟨bx, 2, none⟩ = some (.string x.s) := Blk.cell (MA.out.each 0 _ rfl) 2
  refine Mix.wp_region_XJ S (fun i => ([4, 4, 3, 3, 3, 2] : List Nat).getD i 0) (fun a0 a' w' => ∃ b6 b7, a' = ((((a0.put (some 8) (.agg #[.int .u8 x.k, .int .i64 x.n, .string x.s])).put (some 9) (.agg #[.int .u8 x.k, .int .i64 x.n, .string x.s])).put (some 6) (.pointer (some ⟨b6, 0, none⟩))).put (some 7) (.pointer (some ⟨b7, 0, none⟩))) ∧ Mem w.heap.size w ([blkR bx 128 #[.int .u8 x.k, .int .i64 x.n, .string x.s], blkR r4 128 #[.int .u8 0, .int .i64 0, .string ⟨#[]⟩], blkR r5 128 #[.int .u8 0, .int .i64 0, .string ⟨#[]⟩], blkR b6 128 #[.int .u8 x.k, .int .i64 x.n, .string x.s], blkR b7 128 #[.int .u8 x.k, .int .i64 x.n, .string x.s]]) w') (by kernel_rfl) ?_ ?_
  · refine Mix.wpX_prefix (fuel := 4) (by kernel_rfl) [0, 1] _ _ _ (by kernel_rfl) ?_
    repeat (refine Mix.mix_s (by simp only [List.getElem?_toArray, List.getElem?_cons_zero, List.getElem?_cons_succ]; exact rfl) rfl rfl ?_; go_big_quiet_step (fail); refine wpQuiet_nil ?_)
    intro m0
    refine Mix.wpX_world fun V0 hV0 => ?_
    have M0 := hid (show Mem w.heap.size w ([blkR bx 128 #[.int .u8 x.k, .int .i64 x.n, .string x.s], blkR r4 128 #[.int .u8 0, .int .i64 0, .string ⟨#[]⟩], blkR r5 128 #[.int .u8 0, .int .i64 0, .string ⟨#[]⟩]]) V0 from hV0 ▸ MA.out.drewN m0)
    clear hV0 q0 q1 q2 lbx
    refine Mix.wpX_two 2 3 (by kernel_rfl) ?_ ?_
    · refine Mix.mix_a (by simp only [List.getElem?_toArray, List.getElem?_cons_zero, List.getElem?_cons_succ]; exact rfl) rfl fun Y1 hY1 => ?_
      obtain ⟨y1, rfl⟩ := hY1
      go_wp2_with fail
      refine ⟨fun j hj => (((Ch.refl (fun _ => False) V0).drewN y1).alloc _).block j (by rw [(HS.out j).1 hj]; exact Blk.lt (M0.out.each 0 _ rfl)) id, ?_⟩
      intro m1
      refine Mix.wpX_world fun V1 hV1 => ?_
      have M1 := hid (show Mem w.heap.size w ([blkR bx 128 #[.int .u8 x.k, .int .i64 x.n, .string x.s], blkR r4 128 #[.int .u8 0, .int .i64 0, .string ⟨#[]⟩], blkR r5 128 #[.int .u8 0, .int .i64 0, .string ⟨#[]⟩], blkR V0.heap.size 128 #[.int .u8 0, .int .i64 0, .string ⟨#[]⟩]]) V1 from by rw [hV1]; exact ((M0.out.drewN y1).add (blkR V0.heap.size 128 #[.int .u8 0, .int .i64 0, .string ⟨#[]⟩]) ((Ch.refl _ _).alloc _) (Blk.new (V0.drewN y1) _ _) (fun k e => Nat.le_of_eq e.symm)).drewN m1)
      clear hV1
      refine Mix.wpX_prefix (fuel := 2) (by kernel_rfl) [3] _ _ _ (by kernel_rfl) ?_
      refine Mix.mix_a (by simp only [List.getElem?_toArray, List.getElem?_cons_zero, List.getElem?_cons_succ]; exact rfl) rfl fun Y2 hY2 => ?_
      obtain ⟨y2, rfl⟩ := hY2
      go_wp2_with fail
      refine ⟨fun j hj => (((Ch.refl (fun _ => False) V1).drewN y2).alloc _).block j (by rw [(HS.out j).1 hj]; exact Blk.lt (M1.out.each 0 _ rfl)) id, ?_⟩
      intro m2
      refine Mix.wpX_world fun V2 hV2 => ?_
      obtain ⟨b6, hb6⟩ : ∃ b, b = V0.heap.size := ⟨_, rfl⟩
      obtain ⟨b7, hb7⟩ : ∃ b, b = V1.heap.size := ⟨_, rfl⟩
      have M2 := hid (show Mem w.heap.size w ([blkR bx 128 #[.int .u8 x.k, .int .i64 x.n, .string x.s], blkR r4 128 #[.int .u8 0, .int .i64 0, .string ⟨#[]⟩], blkR r5 128 #[.int .u8 0, .int .i64 0, .string ⟨#[]⟩], blkR b6 128 #[.int .u8 0, .int .i64 0, .string ⟨#[]⟩], blkR b7 128 #[.int .u8 0, .int .i64 0, .string ⟨#[]⟩]]) V2 from by rw [hV2, hb6, hb7]; exact ((M1.out.drewN y2).add (blkR V1.heap.size 128 #[.int .u8 0, .int .i64 0, .string ⟨#[]⟩]) ((Ch.refl _ _).alloc _) (Blk.new (V1.drewN y2) _ _) (fun k e => Nat.le_of_eq e.symm)).drewN m2)
      rw [← hb6, ← hb7]
      clear hV2 hb6 hb7
      have i6 := Blk.lt (M2.out.each 3 _ rfl)
      have i7 := Blk.lt (M2.out.each 4 _ rfl)
      have z60 : V2.cell? ⟨b6, 0, none⟩ = some (.int .u8 0) := Blk.cell (M2.out.each 3 _ rfl) 0
      have f60 := Blk.free (M2.out.each 3 _ rfl) 0
      have z61 : V2.cell? ⟨b6, 1, none⟩ = some (.int .i64 0) := Blk.cell (M2.out.each 3 _ rfl) 1
      have f61 := Blk.free (M2.out.each 3 _ rfl) 1
      have z62 : V2.cell? ⟨b6, 2, none⟩ = some (.string ⟨#[]⟩) := Blk.cell (M2.out.each 3 _ rfl) 2
      have f62 := Blk.free (M2.out.each 3 _ rfl) 2
      have z70 : V2.cell? ⟨b7, 0, none⟩ = some (.int .u8 0) := Blk.cell (M2.out.each 4 _ rfl) 0
      have f70 := Blk.free (M2.out.each 4 _ rfl) 0
      have z71 : V2.cell? ⟨b7, 1, none⟩ = some (.int .i64 0) := Blk.cell (M2.out.each 4 _ rfl) 1
      have f71 := Blk.free (M2.out.each 4 _ rfl) 1
      have z72 : V2.cell? ⟨b7, 2, none⟩ = some (.string ⟨#[]⟩) := Blk.cell (M2.out.each 4 _ rfl) 2
      have f72 := Blk.free (M2.out.each 4 _ rfl) 2
      have ne67 : b6 ≠ b7 := fun e => M2.out.apart 3 4 _ _ rfl rfl (by decide) b6 rfl e
      have ne76 : b7 ≠ b6 := Ne.symm ne67
      refine Mix.wpX_prefix (fuel := 0) (by kernel_rfl) [4, 5] _ _ _ (by kernel_rfl) ?_
      have nbx : bx ≠ b6 := fun e => M2.out.apart 0 3 _ _ rfl rfl (by decide) bx rfl e
      refine Mix.mix_a (by simp only [List.getElem?_toArray, List.getElem?_cons_zero, List.getElem?_cons_succ]; exact rfl) rfl fun Y3 hY3 => ?_
      obtain ⟨y3, rfl⟩ := hY3
      go_wp2_with fail
      refine ⟨fun j hj => (((((Ch.refl (fun k => k = b6) V2).drewN y3).set (fun _ => rfl) _).set (fun _ => rfl) _).set (fun _ => rfl) _).block j (by rw [(HS.out j).1 hj]; exact Blk.lt (M2.out.each 0 _ rfl)) (by rw [(HS.out j).1 hj]; exact nbx), ?_⟩
      refine Mix.mix_e (by simp only [List.getElem?_toArray, List.getElem?_cons_zero, List.getElem?_cons_succ]; exact rfl) rfl fun Y4 hY4 => ?_
      obtain ⟨y4, rfl⟩ := hY4
      go_wp2_with fail
      intro m5
      refine Mix.wpX_done (by kernel_rfl) ?_
      intro m6
      refine ⟨b6, b7, ?_, ?_⟩
      · simp only [Act.put, List.setIfInBounds_toArray, List.set_cons_succ, List.set_cons_zero]
      · have t := ((((((((M2.out.drewN y3).put (i := 3) rfl 0 (.int .u8 x.k)).put (i := 3) rfl 1 (.int .i64 x.n)).put (i := 3) rfl 2 (.string x.s)).drewN y4).put (i := 4) rfl 0 (.int .u8 x.k)).put (i := 4) rfl 1 (.int .i64 x.n)).put (i := 4) rfl 2 (.string x.s)).drewN m5 |>.drewN m6
        exact t
    · refine Mix.mix_a (by simp only [List.getElem?_toArray, List.getElem?_cons_zero, List.getElem?_cons_succ]; exact rfl) rfl fun Y1 hY1 => ?_
      obtain ⟨y1, rfl⟩ := hY1
      go_wp2_with fail
      refine ⟨fun j hj => (((Ch.refl (fun _ => False) V0).drewN y1).alloc _).block j (by rw [(HS.out j).1 hj]; exact Blk.lt (M0.out.each 0 _ rfl)) id, ?_⟩
      intro m1
      refine Mix.wpX_world fun V1 hV1 => ?_
      have M1 := hid (show Mem w.heap.size w ([blkR bx 128 #[.int .u8 x.k, .int .i64 x.n, .string x.s], blkR r4 128 #[.int .u8 0, .int .i64 0, .string ⟨#[]⟩], blkR r5 128 #[.int .u8 0, .int .i64 0, .string ⟨#[]⟩], blkR V0.heap.size 128 #[.int .u8 0, .int .i64 0, .string ⟨#[]⟩]]) V1 from by rw [hV1]; exact ((M0.out.drewN y1).add (blkR V0.heap.size 128 #[.int .u8 0, .int .i64 0, .string ⟨#[]⟩]) ((Ch.refl _ _).alloc _) (Blk.new (V0.drewN y1) _ _) (fun k e => Nat.le_of_eq e.symm)).drewN m1)
      clear hV1
      refine Mix.wpX_prefix (fuel := 2) (by kernel_rfl) [2] _ _ _ (by kernel_rfl) ?_
      refine Mix.mix_a (by simp only [List.getElem?_toArray, List.getElem?_cons_zero, List.getElem?_cons_succ]; exact rfl) rfl fun Y2 hY2 => ?_
      obtain ⟨y2, rfl⟩ := hY2
      go_wp2_with fail
      refine ⟨fun j hj => (((Ch.refl (fun _ => False) V1).drewN y2).alloc _).block j (by rw [(HS.out j).1 hj]; exact Blk.lt (M1.out.each 0 _ rfl)) id, ?_⟩
      intro m2
      refine Mix.wpX_world fun V2 hV2 => ?_
      obtain ⟨b7, hb7⟩ : ∃ b, b = V0.heap.size := ⟨_, rfl⟩
      obtain ⟨b6, hb6⟩ : ∃ b, b = V1.heap.size := ⟨_, rfl⟩
      have M2 := hid (show Mem w.heap.size w ([blkR bx 128 #[.int .u8 x.k, .int .i64 x.n, .string x.s], blkR r4 128 #[.int .u8 0, .int .i64 0, .string ⟨#[]⟩], blkR r5 128 #[.int .u8 0, .int .i64 0, .string ⟨#[]⟩], blkR b7 128 #[.int .u8 0, .int .i64 0, .string ⟨#[]⟩], blkR b6 128 #[.int .u8 0, .int .i64 0, .string ⟨#[]⟩]]) V2 from by rw [hV2, hb7, hb6]; exact ((M1.out.drewN y2).add (blkR V1.heap.size 128 #[.int .u8 0, .int .i64 0, .string ⟨#[]⟩]) ((Ch.refl _ _).alloc _) (Blk.new (V1.drewN y2) _ _) (fun k e => Nat.le_of_eq e.symm)).drewN m2)
      rw [← hb7, ← hb6]
      clear hV2 hb7 hb6
      have i7 := Blk.lt (M2.out.each 3 _ rfl)
      have i6 := Blk.lt (M2.out.each 4 _ rfl)
      have z60 : V2.cell? ⟨b6, 0, none⟩ = some (.int .u8 0) := Blk.cell (M2.out.each 4 _ rfl) 0
      have f60 := Blk.free (M2.out.each 4 _ rfl) 0
      have z61 : V2.cell? ⟨b6, 1, none⟩ = some (.int .i64 0) := Blk.cell (M2.out.each 4 _ rfl) 1
      have f61 := Blk.free (M2.out.each 4 _ rfl) 1
      have z62 : V2.cell? ⟨b6, 2, none⟩ = some (.string ⟨#[]⟩) := Blk.cell (M2.out.each 4 _ rfl) 2
      have f62 := Blk.free (M2.out.each 4 _ rfl) 2
      have z70 : V2.cell? ⟨b7, 0, none⟩ = some (.int .u8 0) := Blk.cell (M2.out.each 3 _ rfl) 0
      have f70 := Blk.free (M2.out.each 3 _ rfl) 0
      have z71 : V2.cell? ⟨b7, 1, none⟩ = some (.int .i64 0) := Blk.cell (M2.out.each 3 _ rfl) 1
      have f71 := Blk.free (M2.out.each 3 _ rfl) 1
      have z72 : V2.cell? ⟨b7, 2, none⟩ = some (.string ⟨#[]⟩) := Blk.cell (M2.out.each 3 _ rfl) 2
      have f72 := Blk.free (M2.out.each 3 _ rfl) 2
      have ne67 : b6 ≠ b7 := fun e => M2.out.apart 4 3 _ _ rfl rfl (by decide) b6 rfl e
      have ne76 : b7 ≠ b6 := Ne.symm ne67
      refine Mix.wpX_prefix (fuel := 0) (by kernel_rfl) [4, 5] _ _ _ (by kernel_rfl) ?_
      have nbx : bx ≠ b6 := fun e => M2.out.apart 0 4 _ _ rfl rfl (by decide) bx rfl e
      refine Mix.mix_a (by simp only [List.getElem?_toArray, List.getElem?_cons_zero, List.getElem?_cons_succ]; exact rfl) rfl fun Y3 hY3 => ?_
      obtain ⟨y3, rfl⟩ := hY3
      go_wp2_with fail
      refine ⟨fun j hj => (((((Ch.refl (fun k => k = b6) V2).drewN y3).set (fun _ => rfl) _).set (fun _ => rfl) _).set (fun _ => rfl) _).block j (by rw [(HS.out j).1 hj]; exact Blk.lt (M2.out.each 0 _ rfl)) (by rw [(HS.out j).1 hj]; exact nbx), ?_⟩
      refine Mix.mix_e (by simp only [List.getElem?_toArray, List.getElem?_cons_zero, List.getElem?_cons_succ]; exact rfl) rfl fun Y4 hY4 => ?_
      obtain ⟨y4, rfl⟩ := hY4
      go_wp2_with fail
      intro m5
      refine Mix.wpX_done (by kernel_rfl) ?_
      intro m6
      refine ⟨b6, b7, ?_, ?_⟩
      · simp only [Act.put, List.setIfInBounds_toArray, List.set_cons_succ, List.set_cons_zero]
      · have t := ((((((((M2.out.drewN y3).put (i := 4) rfl 0 (.int .u8 x.k)).put (i := 4) rfl 1 (.int .i64 x.n)).put (i := 4) rfl 2 (.string x.s)).drewN y4).put (i := 3) rfl 0 (.int .u8 x.k)).put (i := 3) rfl 1 (.int .i64 x.n)).put (i := 3) rfl 2 (.string x.s)).drewN m5 |>.drewN m6
        exact t.perm (List.Perm.cons _ (List.Perm.cons _ (List.Perm.cons _ (List.Perm.swap _ _ _))))
  · clear q0 q1 q2 MA lbx
    rintro a' W2 ⟨b6, b7, rfl, hM⟩
    simp only [Act.put, List.setIfInBounds_toArray, List.set_cons_succ, List.set_cons_zero]
    have M2 := hid hM
    clear hM hS0 HS
    have lbx := Blk.lt (M2.out.each 0 _ rfl)
    have i6 := Blk.lt (M2.out.each 3 _ rfl)
    have i7 := Blk.lt (M2.out.each 4 _ rfl)
    have ne67 : b6 ≠ b7 := fun e => M2.out.apart 3 4 _ _ rfl rfl (by decide) b6 rfl e
    have ne76 : b7 ≠ b6 := Ne.symm ne67
    have q0 : W2.cell? ⟨bx, 0, none⟩ = some (.int .u8 x.k) := Blk.cell (M2.out.each 0 _ rfl) 0
    have q1 : W2.cell? ⟨bx, 1, none⟩ = some (.int .i64 x.n) := Blk.cell (M2.out.each 0 _ rfl) 1
    have q2 : W2.cell? ⟨bx, 2, none⟩ = some (.string x.s) := Blk.cell (M2.out.each 0 _ rfl) 2
    have u0 : W2.cell? ⟨b6, 0, none⟩ = some (.int .u8 x.k) := Blk.cell (M2.out.each 3 _ rfl) 0
    have uf0 := Blk.free (M2.out.each 3 _ rfl) 0
    have u1 : W2.cell? ⟨b6, 1, none⟩ = some (.int .i64 x.n) := Blk.cell (M2.out.each 3 _ rfl) 1
    have uf1 := Blk.free (M2.out.each 3 _ rfl) 1
    have u2 : W2.cell? ⟨b6, 2, none⟩ = some (.string x.s) := Blk.cell (M2.out.each 3 _ rfl) 2
    have uf2 := Blk.free (M2.out.each 3 _ rfl) 2
    have v0 : W2.cell? ⟨b7, 0, none⟩ = some (.int .u8 x.k) := Blk.cell (M2.out.each 4 _ rfl) 0
    have vf0 := Blk.free (M2.out.each 4 _ rfl) 0
    have v1 : W2.cell? ⟨b7, 1, none⟩ = some (.int .i64 x.n) := Blk.cell (M2.out.each 4 _ rfl) 1
    have vf1 := Blk.free (M2.out.each 4 _ rfl) 1
    have v2 : W2.cell? ⟨b7, 2, none⟩ = some (.string x.s) := Blk.cell (M2.out.each 4 _ rfl) 2
    have vf2 := Blk.free (M2.out.each 4 _ rfl) 2
    have ZB := hid (show bx ≠ b6 ∧ bx ≠ b7 ∧ r4 ≠ r5 from ⟨fun e => M2.out.apart 0 3 _ _ rfl rfl (by decide) bx rfl e, fun e => M2.out.apart 0 4 _ _ rfl rfl (by decide) bx rfl e, fun e => M2.out.apart 1 2 _ _ rfl rfl (by decide) r4 rfl e⟩)
    obtain ⟨zb1, zb2, zr1⟩ := ZB.out
    have zb3 : b6 ≠ bx := Ne.symm zb1
    have zb4 : b7 ≠ bx := Ne.symm zb2
    by_cases hk : x.k = 2
    · have bk : (x.k == 2) = true := by simp [hk]
      have hns : n ≤ x.s.size := hn hk
      have HC := hid (show (Dl.cut1 x n).agg = .agg #[.int .u8 x.k, .int .i64 x.n, .string (x.s.extract 0 n)] ∧ (Dl.cut2 x n).agg = .agg #[.int .u8 x.k, .int .i64 x.n, .string (x.s.extract n x.s.size)] from by
        unfold Dl.cut1 Dl.cut2
        rw [if_pos hk, if_pos hk, Int.toNat_natCast]
        exact ⟨rfl, rfl⟩)
      clear hk hn
      go_wp2_with fail
      obtain ⟨S, hS⟩ : ∃ S : Nat → Prop, ∀ k, S k ↔ (k = bx) := ⟨_, fun _ => Iff.rfl⟩
      have hS0 : Mix.Has S bx := (hS _).2 (rfl)
      have HS := hid hS
      clear hS
      refine Mix.wp_region_mix S (fun i => ([0, 4, 0, 0, 1, 4, 1, 1, 0, 3, 0, 2] : List Nat).getD i 0) [0, 1, 2, 3, 4, 5, 6, 7, 8, 9, 10, 11] (by kernel_rfl) (by kernel_rfl) ?_
      repeat (first | (refine Mix.mix_s (by simp only [List.getElem?_toArray, List.getElem?_cons_zero, List.getElem?_cons_succ]; exact rfl) rfl rfl ?_; go_big_quiet_step (fail); refine wpQuiet_nil ?_) | (refine Mix.mix_q (by simp only [List.getElem?_toArray, List.getElem?_cons_zero, List.getElem?_cons_succ]; exact rfl) rfl ?_; go_big_quiet_step (fail); refine wpQuiet_nil ?_) | (refine Mix.mix_p (by simp only [List.getElem?_toArray, List.getElem?_cons_zero, List.getElem?_cons_succ]; exact rfl) rfl rfl ?_; go_big_quiet_step (fail); refine wpQuiet_nil ?_))
      refine Mix.mix_a (by simp only [List.getElem?_toArray, List.getElem?_cons_zero, List.getElem?_cons_succ]; exact rfl) rfl fun Z1 hZ1 => ?_
      obtain ⟨k1, rfl⟩ := hZ1
      go_wp2_with fail
      refine ⟨fun j hj => (((Ch.refl (fun k => k = b6) W2).drewN k1).set (fun _ => rfl) _).block j (by rw [(HS.out j).1 hj]; exact lbx) (by rw [(HS.out j).1 hj]; exact zb1), ?_⟩
      repeat (first | (refine Mix.mix_s (by simp only [List.getElem?_toArray, List.getElem?_cons_zero, List.getElem?_cons_succ]; exact rfl) rfl rfl ?_; go_big_quiet_step (fail); refine wpQuiet_nil ?_) | (refine Mix.mix_q (by simp only [List.getElem?_toArray, List.getElem?_cons_zero, List.getElem?_cons_succ]; exact rfl) rfl ?_; go_big_quiet_step (fail); refine wpQuiet_nil ?_) | (refine Mix.mix_p (by simp only [List.getElem?_toArray, List.getElem?_cons_zero, List.getElem?_cons_succ]; exact rfl) rfl rfl ?_; go_big_quiet_step (fail); refine wpQuiet_nil ?_))
      refine Mix.mix_e (by simp only [List.getElem?_toArray, List.getElem?_cons_zero, List.getElem?_cons_succ]; exact rfl) rfl fun Z2 hZ2 => ?_
      obtain ⟨k2, rfl⟩ := hZ2
      go_wp2_with fail
      intro k3
      refine at_world fun W3 hW3 => ?_
      have M3 := hid (show Mem w.heap.size w ([blkR bx 128 #[.int .u8 x.k, .int .i64 x.n, .string x.s], blkR r4 128 #[.int .u8 0, .int .i64 0, .string ⟨#[]⟩], blkR r5 128 #[.int .u8 0, .int .i64 0, .string ⟨#[]⟩], blkR b6 128 #[.int .u8 x.k, .int .i64 x.n, .string (x.s.extract 0 n)], blkR b7 128 #[.int .u8 x.k, .int .i64 x.n, .string (x.s.extract n x.s.size)]]) W3 from by rw [hW3]; exact ((((M2.out.drewN k1).put (i := 3) rfl 2 (.string (x.s.extract 0 n))).drewN k2).put (i := 4) rfl 2 (.string (x.s.extract n x.s.size))).drewN k3)
      clear hW3 q0 q1 q2 u0 uf0 u1 uf1 u2 uf2 v0 vf0 v1 vf1 v2 vf2 hS0 HS
      have q0 : W3.cell? ⟨r4, 0, none⟩ = some (.int .u8 0) := Blk.cell (M3.out.each 1 _ rfl) 0
      have qf0 := Blk.free (M3.out.each 1 _ rfl) 0
      have q1 : W3.cell? ⟨r4, 1, none⟩ = some (.int .i64 0) := Blk.cell (M3.out.each 1 _ rfl) 1
      have qf1 := Blk.free (M3.out.each 1 _ rfl) 1
      have q2 : W3.cell? ⟨r4, 2, none⟩ = some (.string ⟨#[]⟩) := Blk.cell (M3.out.each 1 _ rfl) 2
      have qf2 := Blk.free (M3.out.each 1 _ rfl) 2
      have p0 : W3.cell? ⟨r5, 0, none⟩ = some (.int .u8 0) := Blk.cell (M3.out.each 2 _ rfl) 0
      have pf0 := Blk.free (M3.out.each 2 _ rfl) 0
      have p1 : W3.cell? ⟨r5, 1, none⟩ = some (.int .i64 0) := Blk.cell (M3.out.each 2 _ rfl) 1
      have pf1 := Blk.free (M3.out.each 2 _ rfl) 1
      have p2 : W3.cell? ⟨r5, 2, none⟩ = some (.string ⟨#[]⟩) := Blk.cell (M3.out.each 2 _ rfl) 2
      have pf2 := Blk.free (M3.out.each 2 _ rfl) 2
      have u0 : W3.cell? ⟨b6, 0, none⟩ = some (.int .u8 x.k) := Blk.cell (M3.out.each 3 _ rfl) 0
      have u1 : W3.cell? ⟨b6, 1, none⟩ = some (.int .i64 x.n) := Blk.cell (M3.out.each 3 _ rfl) 1
      have u2 : W3.cell? ⟨b6, 2, none⟩ = some (.string (x.s.extract 0 n)) := Blk.cell (M3.out.each 3 _ rfl) 2
      have v0 : W3.cell? ⟨b7, 0, none⟩ = some (.int .u8 x.k) := Blk.cell (M3.out.each 4 _ rfl) 0
      have v1 : W3.cell? ⟨b7, 1, none⟩ = some (.int .i64 x.n) := Blk.cell (M3.out.each 4 _ rfl) 1
      have v2 : W3.cell? ⟨b7, 2, none⟩ = some (.string (x.s.extract n x.s.size)) := Blk.cell (M3.out.each 4 _ rfl) 2
      have l1 := Blk.lt (M3.out.each 1 _ rfl)
      have l2 := Blk.lt (M3.out.each 2 _ rfl)
      have l3 := Blk.lt (M3.out.each 3 _ rfl)
      have l4 := Blk.lt (M3.out.each 4 _ rfl)
      have zr2 : r5 ≠ r4 := Ne.symm zr1
      have y63 : b6 ≠ r4 := fun e => M3.out.apart 3 1 _ _ rfl rfl (by decide) b6 rfl e
      have y73 : b7 ≠ r4 := fun e => M3.out.apart 4 1 _ _ rfl rfl (by decide) b7 rfl e
      have y64 : b6 ≠ r5 := fun e => M3.out.apart 3 2 _ _ rfl rfl (by decide) b6 rfl e
      have y74 : b7 ≠ r5 := fun e => M3.out.apart 4 2 _ _ rfl rfl (by decide) b7 rfl e
      obtain ⟨S, hS⟩ : ∃ S : Nat → Prop, ∀ k, S k ↔ (k = b6 ∨ k = b7) := ⟨_, fun _ => Iff.rfl⟩
      have hS0 : Mix.Has S b6 := (hS _).2 (.inl rfl)
      have hS1 : Mix.Has S b7 := (hS _).2 (.inr rfl)
      have HS := hid hS
      clear hS
      go_wp2_with fail
      refine Mix.wp_region_mix S (fun i => ([4, 4, 3, 3] : List Nat).getD i 0) [0, 1, 2, 3] (by kernel_rfl) (by kernel_rfl) ?_
      repeat (refine Mix.mix_s (by simp only [List.getElem?_toArray, List.getElem?_cons_zero, List.getElem?_cons_succ]; exact rfl) rfl rfl ?_; go_big_quiet_step (fail); refine wpQuiet_nil ?_)
      refine Mix.mix_a (by simp only [List.getElem?_toArray, List.getElem?_cons_zero, List.getElem?_cons_succ]; exact rfl) rfl fun Z4 hZ4 => ?_
      obtain ⟨k4, rfl⟩ := hZ4
      go_wp2_with fail
      refine ⟨fun j hj => (((((Ch.refl (fun k => k = r4) W3).drewN k4).set (fun _ => rfl) _).set (fun _ => rfl) _).set (fun _ => rfl) _).block j (by rcases (HS.out j).1 hj with e | e <;> rw [e] <;> assumption) (by rcases (HS.out j).1 hj with e | e <;> rw [e] <;> assumption), ?_⟩
      refine Mix.mix_a (by simp only [List.getElem?_toArray, List.getElem?_cons_zero, List.getElem?_cons_succ]; exact rfl) rfl fun Z5 hZ5 => ?_
      obtain ⟨k5, rfl⟩ := hZ5
      go_wp2_with fail
      refine ⟨fun j hj => (((((Ch.refl (fun k => k = r5) _).drewN k5).set (fun _ => rfl) _).set (fun _ => rfl) _).set (fun _ => rfl) _).block j (by rcases (HS.out j).1 hj with e | e <;> rw [e] <;> simp [World.setCell] <;> assumption) (by rcases (HS.out j).1 hj with e | e <;> rw [e] <;> assumption), ?_⟩
      intro k6
      refine at_world fun W4 hW4 => ?_
      have M4 := hid (show Mem w.heap.size w ([blkR bx 128 #[.int .u8 x.k, .int .i64 x.n, .string x.s], blkR r4 128 #[.int .u8 x.k, .int .i64 x.n, .string (x.s.extract 0 n)], blkR r5 128 #[.int .u8 x.k, .int .i64 x.n, .string (x.s.extract n x.s.size)], blkR b6 128 #[.int .u8 x.k, .int .i64 x.n, .string (x.s.extract 0 n)], blkR b7 128 #[.int .u8 x.k, .int .i64 x.n, .string (x.s.extract n x.s.size)]]) W4 from by rw [hW4]; exact (((((((((M3.out.drewN k4).put (i := 1) rfl 0 (.int .u8 x.k)).put (i := 1) rfl 1 (.int .i64 x.n)).put (i := 1) rfl 2 (.string (x.s.extract 0 n))).drewN k5).put (i := 2) rfl 0 (.int .u8 x.k)).put (i := 2) rfl 1 (.int .i64 x.n)).put (i := 2) rfl 2 (.string (x.s.extract n x.s.size)))).drewN k6)
      clear hW4 q0 q1 q2 u0 u1 u2 v0 v1 v2 p0 pf0 p1 pf1 p2 pf2 qf0 qf1 qf2
      have q0 : W4.cell? ⟨r4, 0, none⟩ = some (.int .u8 x.k) := Blk.cell (M4.out.each 1 _ rfl) 0
      have q1 : W4.cell? ⟨r4, 1, none⟩ = some (.int .i64 x.n) := Blk.cell (M4.out.each 1 _ rfl) 1
      have q2 : W4.cell? ⟨r4, 2, none⟩ = some (.string (x.s.extract 0 n)) := Blk.cell (M4.out.each 1 _ rfl) 2
      have p0 : W4.cell? ⟨r5, 0, none⟩ = some (.int .u8 x.k) := Blk.cell (M4.out.each 2 _ rfl) 0
      have p1 : W4.cell? ⟨r5, 1, none⟩ = some (.int .i64 x.n) := Blk.cell (M4.out.each 2 _ rfl) 1
      have p2 : W4.cell? ⟨r5, 2, none⟩ = some (.string (x.s.extract n x.s.size)) := Blk.cell (M4.out.each 2 _ rfl) 2
      go_wp2_with fail
      refine bodyPost_ret (v := .tuple #[.agg #[.int .u8 x.k, .int .i64 x.n, .string (x.s.extract 0 n)], .agg #[.int .u8 x.k, .int .i64 x.n, .string (x.s.extract n x.s.size)]]) (by simp [results, Tryz.results168, go_sem, q0, q1, q2, p0, p1, p2]) rfl ⟨by (rw [HC.out.1, HC.out.2]), M4.out.ch rfl⟩
    · have bk : (x.k == 2) = false := by simp [hk]
      have HC := hid (show (Dl.cut1 x n).agg = .agg #[.int .u8 x.k, .int .i64 n, .string x.s] ∧ (Dl.cut2 x n).agg = .agg #[.int .u8 x.k, .int .i64 (x.n - n), .string x.s] from by
        unfold Dl.cut1 Dl.cut2
        rw [if_neg hk, if_neg hk]
        exact ⟨rfl, rfl⟩)
      clear hk hn
      go_wp2_with fail
      obtain ⟨S, hS⟩ : ∃ S : Nat → Prop, ∀ k, S k ↔ (k = bx) := ⟨_, fun _ => Iff.rfl⟩
      have hS0 : Mix.Has S bx := (hS _).2 (rfl)
      have HS := hid hS
      clear hS
      refine Mix.wp_region_mix S (fun i => ([0, 1, 4, 1, 1, 0, 3, 0, 2] : List Nat).getD i 0) [0, 1, 2, 3, 4, 5, 6, 7, 8] (by kernel_rfl) (by kernel_rfl) ?_
      repeat (first | (refine Mix.mix_s (by simp only [List.getElem?_toArray, List.getElem?_cons_zero, List.getElem?_cons_succ]; exact rfl) rfl rfl ?_; go_big_quiet_step (fail); refine wpQuiet_nil ?_) | (refine Mix.mix_q (by simp only [List.getElem?_toArray, List.getElem?_cons_zero, List.getElem?_cons_succ]; exact rfl) rfl ?_; go_big_quiet_step (fail); refine wpQuiet_nil ?_) | (refine Mix.mix_p (by simp only [List.getElem?_toArray, List.getElem?_cons_zero, List.getElem?_cons_succ]; exact rfl) rfl rfl ?_; go_big_quiet_step (fail); refine wpQuiet_nil ?_))
      refine Mix.mix_a (by simp only [List.getElem?_toArray, List.getElem?_cons_zero, List.getElem?_cons_succ]; exact rfl) rfl fun Z1 hZ1 => ?_
      obtain ⟨k1, rfl⟩ := hZ1
      go_wp2_with fail
      refine ⟨fun j hj => (((Ch.refl (fun k => k = b6) W2).drewN k1).set (fun _ => rfl) _).block j (by rw [(HS.out j).1 hj]; exact lbx) (by rw [(HS.out j).1 hj]; exact zb1), ?_⟩
      repeat (first | (refine Mix.mix_s (by simp only [List.getElem?_toArray, List.getElem?_cons_zero, List.getElem?_cons_succ]; exact rfl) rfl rfl ?_; go_big_quiet_step (fail); refine wpQuiet_nil ?_) | (refine Mix.mix_q (by simp only [List.getElem?_toArray, List.getElem?_cons_zero, List.getElem?_cons_succ]; exact rfl) rfl ?_; go_big_quiet_step (fail); refine wpQuiet_nil ?_) | (refine Mix.mix_p (by simp only [List.getElem?_toArray, List.getElem?_cons_zero, List.getElem?_cons_succ]; exact rfl) rfl rfl ?_; go_big_quiet_step (fail); refine wpQuiet_nil ?_))
      refine Mix.mix_e (by simp only [List.getElem?_toArray, List.getElem?_cons_zero, List.getElem?_cons_succ]; exact rfl) rfl fun Z2 hZ2 => ?_
      obtain ⟨k2, rfl⟩ := hZ2
      go_wp2_with fail
      intro k3
      refine at_world fun W3 hW3 => ?_
      have M3 := hid (show Mem w.heap.size w ([blkR bx 128 #[.int .u8 x.k, .int .i64 x.n, .string x.s], blkR r4 128 #[.int .u8 0, .int .i64 0, .string ⟨#[]⟩], blkR r5 128 #[.int .u8 0, .int .i64 0, .string ⟨#[]⟩], blkR b6 128 #[.int .u8 x.k, .int .i64 n, .string x.s], blkR b7 128 #[.int .u8 x.k, .int .i64 (x.n - n), .string x.s]]) W3 from by rw [hW3]; exact ((((M2.out.drewN k1).put (i := 3) rfl 1 (.int .i64 n)).drewN k2).put (i := 4) rfl 1 (.int .i64 (x.n - n))).drewN k3)
      clear hW3 q0 q1 q2 u0 uf0 u1 uf1 u2 uf2 v0 vf0 v1 vf1 v2 vf2 hS0 HS
      have q0 : W3.cell? ⟨r4, 0, none⟩ = some (.int .u8 0) := Blk.cell (M3.out.each 1 _ rfl) 0
      have qf0 := Blk.free (M3.out.each 1 _ rfl) 0
      have q1 : W3.cell? ⟨r4, 1, none⟩ = some (.int .i64 0) := Blk.cell (M3.out.each 1 _ rfl) 1
      have qf1 := Blk.free (M3.out.each 1 _ rfl) 1
      have q2 : W3.cell? ⟨r4, 2, none⟩ = some (.string ⟨#[]⟩) := Blk.cell (M3.out.each 1 _ rfl) 2
      have qf2 := Blk.free (M3.out.each 1 _ rfl) 2
      have p0 : W3.cell? ⟨r5, 0, none⟩ = some (.int .u8 0) := Blk.cell (M3.out.each 2 _ rfl) 0
      have pf0 := Blk.free (M3.out.each 2 _ rfl) 0
      have p1 : W3.cell? ⟨r5, 1, none⟩ = some (.int .i64 0) := Blk.cell (M3.out.each 2 _ rfl) 1
      have pf1 := Blk.free (M3.out.each 2 _ rfl) 1
      have p2 : W3.cell? ⟨r5, 2, none⟩ = some (.string ⟨#[]⟩) := Blk.cell (M3.out.each 2 _ rfl) 2
      have pf2 := Blk.free (M3.out.each 2 _ rfl) 2
      have u0 : W3.cell? ⟨b6, 0, none⟩ = some (.int .u8 x.k) := Blk.cell (M3.out.each 3 _ rfl) 0
      have u1 : W3.cell? ⟨b6, 1, none⟩ = some (.int .i64 n) := Blk.cell (M3.out.each 3 _ rfl) 1
      have u2 : W3.cell? ⟨b6, 2, none⟩ = some (.string x.s) := Blk.cell (M3.out.each 3 _ rfl) 2
      have v0 : W3.cell? ⟨b7, 0, none⟩ = some (.int .u8 x.k) := Blk.cell (M3.out.each 4 _ rfl) 0
      have v1 : W3.cell? ⟨b7, 1, none⟩ = some (.int .i64 (x.n - n)) := Blk.cell (M3.out.each 4 _ rfl) 1
      have v2 : W3.cell? ⟨b7, 2, none⟩ = some (.string x.s) := Blk.cell (M3.out.each 4 _ rfl) 2
      have l1 := Blk.lt (M3.out.each 1 _ rfl)
      have l2 := Blk.lt (M3.out.each 2 _ rfl)
      have l3 := Blk.lt (M3.out.each 3 _ rfl)
      have l4 := Blk.lt (M3.out.each 4 _ rfl)
      have zr2 : r5 ≠ r4 := Ne.symm zr1
      have y63 : b6 ≠ r4 := fun e => M3.out.apart 3 1 _ _ rfl rfl (by decide) b6 rfl e
      have y73 : b7 ≠ r4 := fun e => M3.out.apart 4 1 _ _ rfl rfl (by decide) b7 rfl e
      have y64 : b6 ≠ r5 := fun e => M3.out.apart 3 2 _ _ rfl rfl (by decide) b6 rfl e
      have y74 : b7 ≠ r5 := fun e => M3.out.apart 4 2 _ _ rfl rfl (by decide) b7 rfl e
      obtain ⟨S, hS⟩ : ∃ S : Nat → Prop, ∀ k, S k ↔ (k = b6 ∨ k = b7) := ⟨_, fun _ => Iff.rfl⟩
      have hS0 : Mix.Has S b6 := (hS _).2 (.inl rfl)
      have hS1 : Mix.Has S b7 := (hS _).2 (.inr rfl)
      have HS := hid hS
      clear hS
      go_wp2_with fail
      refine Mix.wp_region_mix S (fun i => ([4, 4, 3, 3] : List Nat).getD i 0) [0, 1, 2, 3] (by kernel_rfl) (by kernel_rfl) ?_
      repeat (refine Mix.mix_s (by simp only [List.getElem?_toArray, List.getElem?_cons_zero, List.getElem?_cons_succ]; exact rfl) rfl rfl ?_; go_big_quiet_step (fail); refine wpQuiet_nil ?_)
      refine Mix.mix_a (by simp only [List.getElem?_toArray, List.getElem?_cons_zero, List.getElem?_cons_succ]; exact rfl) rfl fun Z4 hZ4 => ?_
      obtain ⟨k4, rfl⟩ := hZ4
      go_wp2_with fail
      refine ⟨fun j hj => (((((Ch.refl (fun k => k = r4) W3).drewN k4).set (fun _ => rfl) _).set (fun _ => rfl) _).set (fun _ => rfl) _).block j (by rcases (HS.out j).1 hj with e | e <;> rw [e] <;> assumption) (by rcases (HS.out j).1 hj with e | e <;> rw [e] <;> assumption), ?_⟩
      refine Mix.mix_a (by simp only [List.getElem?_toArray, List.getElem?_cons_zero, List.getElem?_cons_succ]; exact rfl) rfl fun Z5 hZ5 => ?_
      obtain ⟨k5, rfl⟩ := hZ5
      go_wp2_with fail
      refine ⟨fun j hj => (((((Ch.refl (fun k => k = r5) _).drewN k5).set (fun _ => rfl) _).set (fun _ => rfl) _).set (fun _ => rfl) _).block j (by rcases (HS.out j).1 hj with e | e <;> rw [e] <;> simp [World.setCell] <;> assumption) (by rcases (HS.out j).1 hj with e | e <;> rw [e] <;> assumption), ?_⟩
      intro k6
      refine at_world fun W4 hW4 => ?_
      have M4 := hid (show Mem w.heap.size w ([blkR bx 128 #[.int .u8 x.k, .int .i64 x.n, .string x.s], blkR r4 128 #[.int .u8 x.k, .int .i64 n, .string x.s], blkR r5 128 #[.int .u8 x.k, .int .i64 (x.n - n), .string x.s], blkR b6 128 #[.int .u8 x.k, .int .i64 n, .string x.s], blkR b7 128 #[.int .u8 x.k, .int .i64 (x.n - n), .string x.s]]) W4 from by rw [hW4]; exact (((((((((M3.out.drewN k4).put (i := 1) rfl 0 (.int .u8 x.k)).put (i := 1) rfl 1 (.int .i64 n)).put (i := 1) rfl 2 (.string x.s)).drewN k5).put (i := 2) rfl 0 (.int .u8 x.k)).put (i := 2) rfl 1 (.int .i64 (x.n - n))).put (i := 2) rfl 2 (.string x.s))).drewN k6)
      clear hW4 q0 q1 q2 u0 u1 u2 v0 v1 v2 p0 pf0 p1 pf1 p2 pf2 qf0 qf1 qf2
      have q0 : W4.cell? ⟨r4, 0, none⟩ = some (.int .u8 x.k) := Blk.cell (M4.out.each 1 _ rfl) 0
      have q1 : W4.cell? ⟨r4, 1, none⟩ = some (.int .i64 n) := Blk.cell (M4.out.each 1 _ rfl) 1
      have q2 : W4.cell? ⟨r4, 2, none⟩ = some (.string x.s) := Blk.cell (M4.out.each 1 _ rfl) 2
      have p0 : W4.cell? ⟨r5, 0, none⟩ = some (.int .u8 x.k) := Blk.cell (M4.out.each 2 _ rfl) 0
      have p1 : W4.cell? ⟨r5, 1, none⟩ = some (.int .i64 (x.n - n)) := Blk.cell (M4.out.each 2 _ rfl) 1
      have p2 : W4.cell? ⟨r5, 2, none⟩ = some (.string x.s) := Blk.cell (M4.out.each 2 _ rfl) 2
      go_wp2_with fail
      refine bodyPost_ret (v := .tuple #[.agg #[.int .u8 x.k, .int .i64 n, .string x.s], .agg #[.int .u8 x.k, .int .i64 (x.n - n), .string x.s]]) (by simp [results, Tryz.results168, go_sem, q0, q1, q2, p0, p1, p2]) rfl ⟨by (rw [HC.out.1, HC.out.2]), M4.out.ch rfl⟩
end Go.Proofs.YtefpabicgefciaaGreat
