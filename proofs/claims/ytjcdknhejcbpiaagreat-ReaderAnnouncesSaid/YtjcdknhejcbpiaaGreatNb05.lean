/- Lemmas that the proof of the last text leans on; no condition. -/
import Derived.Test.YtjcdknhejcbpiaaGreatNb04
namespace Go.Proofs.YtjcdknhejcbpiaaGreat
open Go.RowKit
set_option linter.unusedVariables false
set_option linter.unusedSimpArgs false
set_option linter.unusedSectionVars false
set_option maxRecDepth 100000 in
set_option maxHeartbeats 1000000 in
theorem sizes0 (w : World) : Calls Tryz.prog 142 #[.int .i64 0, .int .i64 16] w fun e w' => e = .returned (.slice none 0 0) ∧ Ch (fun _ => False) w w' := by
  go_enter Tryz.func142, Tryz.ntmps142
  go_wp2_with fail
  go_ret
  exact ⟨rfl, by (repeat (first | exact Ch.refl _ _ | refine Ch.setCell ?_ (fun h => absurd h (by simp)) _ | refine Ch.alloc ?_ _ | refine Ch.drewN ?_ _))⟩
set_option maxRecDepth 100000 in
set_option maxHeartbeats 1000000 in
theorem chunks0 (w : World) : Calls Tryz.prog 116 #[(.string ⟨#[]⟩)] w fun e w' => e = .returned (.slice none 0 0) ∧ Ch (fun _ => False) w w' := by
  go_enter Tryz.func116, Tryz.ntmps116
  go_wp2_with fail
  refine (sizes0 _).mono ?_
  rintro e w1 ⟨rfl, hc⟩
  go_wp2_with fail
  go_loopw [0, 3, 10] (fun s v i wr => s = (.string ⟨#[]⟩) ∧ v = (.slice none 0 0) ∧ i = .int .i64 0 ∧ wr = w1) (fun _ _ _ _ => 0)
  case atStart => exact ⟨rfl, rfl, rfl, rfl⟩
  case round =>
    obtain ⟨rfl, rfl, rfl, rfl⟩ := hrel
    go_wp2_with fail
    go_ret
    exact ⟨rfl, hc⟩
set_option maxRecDepth 100000 in
set_option maxHeartbeats 1000000 in
theorem group0 (w : World) : Calls Tryz.prog 118 #[(.slice none 0 0)] w fun e w' => e = .returned ((.agg #[.int .u64 0, .int .i64 0, .int .i64 0, .int .i64 0, .int .i64 0, .string ⟨#[]⟩, .slice none 0 0])) ∧ Ch (fun _ => False) w w' := by
  go_enter Tryz.func118, Tryz.ntmps118
  go_wp2_with fail
  refine bodyPost_ret (v := (.agg #[.int .u64 0, .int .i64 0, .int .i64 0, .int .i64 0, .int .i64 0, .string ⟨#[]⟩, .slice none 0 0])) ?_ rfl ⟨rfl, ?_⟩
  · simp [results, Tryz.results118, go_sem]
  · (repeat (first | exact Ch.refl _ _ | refine Ch.setCell ?_ (fun h => absurd h (by simp)) _ | refine Ch.alloc ?_ _ | refine Ch.drewN ?_ _))
set_option maxRecDepth 100000 in
set_option maxHeartbeats 1000000 in
theorem build0 (w : World) : Calls Tryz.prog 80 #[(.string ⟨#[]⟩)] w fun e w' => e = .returned (.tuple #[(.agg #[.int .u64 0, .int .i64 0, .int .i64 0, .int .i64 0, .int .i64 0, .string ⟨#[]⟩, .slice none 0 0]), .int .i64 0]) ∧ Ch (fun _ => False) w w' := by
  go_enter Tryz.func80, Tryz.ntmps80
  go_wp2_with fail
  refine calls_world fun W1 hW1 => ?_
  have cW : Ch (fun _ => False) w W1 := by rw [hW1]; exact (Ch.refl _ w).alloc _
  have bT : Blk W1 w.heap.size 183 #[.int .u64 0, .int .i64 0, .int .i64 0, .int .i64 0, .int .i64 0, .string ⟨#[]⟩, .slice none 0 0] := by rw [hW1]; exact Blk.new w _ _
  have HC := hid cW
  have HB := hid bT
  have hlt := bT.lt
  clear hW1 cW bT
  refine (chunks0 W1).mono ?_
  rintro e w2 ⟨rfl, hc⟩
  have B2 := hc.blk HB.out id
  have HC2 := hid (HC.out.trans hc (fun _ _ h => h))
  have r0 : w2.cell? ⟨w.heap.size, 0, none⟩ = some (.int .u64 0) := B2.cell 0
  have r1 : w2.cell? ⟨w.heap.size, 1, none⟩ = some (.int .i64 0) := B2.cell 1
  have r2 : w2.cell? ⟨w.heap.size, 2, none⟩ = some (.int .i64 0) := B2.cell 2
  have r3 : w2.cell? ⟨w.heap.size, 3, none⟩ = some (.int .i64 0) := B2.cell 3
  have r4 : w2.cell? ⟨w.heap.size, 4, none⟩ = some (.int .i64 0) := B2.cell 4
  have r5 : w2.cell? ⟨w.heap.size, 5, none⟩ = some (.string ⟨#[]⟩) := B2.cell 5
  have r6 : w2.cell? ⟨w.heap.size, 6, none⟩ = some (.slice none 0 0) := B2.cell 6
  have s0 := B2.free 0
  have s1 := B2.free 1
  have s2 := B2.free 2
  have s3 := B2.free 3
  have s4 := B2.free 4
  have s5 := B2.free 5
  have s6 := B2.free 6
  clear hc
  go_wp2_with fail
  go_loopw [4, 19] (fun r i W => r = (.slice none 0 0) ∧ i = .int .i64 0 ∧ W = w2) (fun _ _ _ => 0)
  case atStart => exact ⟨rfl, rfl, rfl⟩
  case round =>
    obtain ⟨rfl, rfl, rfl⟩ := hrel
    go_wp2_with fail
    go_loopw [4] (fun r W => r = (.slice none 0 0) ∧ W = wr) (fun _ _ => 0)
    case atStart => exact ⟨rfl, rfl⟩
    case round =>
      obtain ⟨rfl, rfl⟩ := hrel
      go_wp2_with fail
      clear r0 s0 r1 s1 r2 s2 r3 s3 r4 s4 r5 s5 r6 s6
      refine (group0 _).mono ?_
      rintro e w3 ⟨rfl, hc⟩
      have B3 := hc.blk B2 id
      have HC3 := hid (HC2.out.trans hc (fun _ _ h => h))
      have r0 : w3.cell? ⟨w.heap.size, 0, none⟩ = some (.int .u64 0) := B3.cell 0
      have r1 : w3.cell? ⟨w.heap.size, 1, none⟩ = some (.int .i64 0) := B3.cell 1
      have r2 : w3.cell? ⟨w.heap.size, 2, none⟩ = some (.int .i64 0) := B3.cell 2
      have r3 : w3.cell? ⟨w.heap.size, 3, none⟩ = some (.int .i64 0) := B3.cell 3
      have r4 : w3.cell? ⟨w.heap.size, 4, none⟩ = some (.int .i64 0) := B3.cell 4
      have r5 : w3.cell? ⟨w.heap.size, 5, none⟩ = some (.string ⟨#[]⟩) := B3.cell 5
      have r6 : w3.cell? ⟨w.heap.size, 6, none⟩ = some (.slice none 0 0) := B3.cell 6
      have s0 := B3.free 0
      have s1 := B3.free 1
      have s2 := B3.free 2
      have s3 := B3.free 3
      have s4 := B3.free 4
      have s5 := B3.free 5
      have s6 := B3.free 6
      clear hc
      go_wp2_with fail
      refine at_world fun W7 hW7 => ?_
      have B7 : Blk W7 w.heap.size 183 #[.int .u64 0, .int .i64 0, .int .i64 0, .int .i64 0, .int .i64 0, .string ⟨#[]⟩, .slice none 0 0] := by rw [hW7]; exact (((((((B3.put 0 _).put 1 _).put 2 _).put 3 _).put 4 _).put 5 _).put 6 _)
      have c7 : Ch (fun k => k = w.heap.size) w3 W7 := by rw [hW7]; exact ((((((((Ch.refl (fun k => k = w.heap.size) w3).set (fun _ => rfl) _).set (fun _ => rfl) _).set (fun _ => rfl) _).set (fun _ => rfl) _).set (fun _ => rfl) _).set (fun _ => rfl) _).set (fun _ => rfl) _)
      have t0 : W7.cell? ⟨w.heap.size, 0, none⟩ = some (.int .u64 0) := B7.cell 0
      have t1 : W7.cell? ⟨w.heap.size, 1, none⟩ = some (.int .i64 0) := B7.cell 1
      have t2 : W7.cell? ⟨w.heap.size, 2, none⟩ = some (.int .i64 0) := B7.cell 2
      have t3 : W7.cell? ⟨w.heap.size, 3, none⟩ = some (.int .i64 0) := B7.cell 3
      have t4 : W7.cell? ⟨w.heap.size, 4, none⟩ = some (.int .i64 0) := B7.cell 4
      have t5 : W7.cell? ⟨w.heap.size, 5, none⟩ = some (.string ⟨#[]⟩) := B7.cell 5
      have t6 : W7.cell? ⟨w.heap.size, 6, none⟩ = some (.slice none 0 0) := B7.cell 6
      refine bodyPost_ret (v := .tuple #[(.agg #[.int .u64 0, .int .i64 0, .int .i64 0, .int .i64 0, .int .i64 0, .string ⟨#[]⟩, .slice none 0 0]), .int .i64 0]) ?_ rfl ⟨rfl, HC3.out.trans c7 (fun i hi e => absurd hi (by omega))⟩
      clear hW7 c7
      simp [results, Tryz.results80, go_sem, t0, t1, t2, t3, t4, t5, t6]
set_option maxRecDepth 100000 in
set_option maxHeartbeats 1000000 in
theorem kind0 (w : World) : Calls Tryz.prog 156 #[(.agg #[.int .u64 0, .int .i64 0, .int .i64 0, .int .i64 0, .int .i64 0, .string ⟨#[]⟩, .slice none 0 0])] w fun e w' => e = .returned (.int .i64 1) ∧ Ch (fun _ => False) w w' := by
  go_enter Tryz.func156, Tryz.ntmps156
  go_wp2_with fail
  go_ret
  exact ⟨rfl, by (repeat (first | exact Ch.refl _ _ | refine Ch.setCell ?_ (fun h => absurd h (by simp)) _ | refine Ch.alloc ?_ _ | refine Ch.drewN ?_ _))⟩
set_option maxRecDepth 100000 in
set_option maxHeartbeats 1000000 in
theorem planCheck0 (p : Nat) (w : World) : Calls Tryz.prog 143 #[.pointer (some ⟨p, 0, none⟩), (.agg #[.int .u64 0, .int .i64 0, .int .i64 0, .int .i64 0, .int .i64 0, .string ⟨#[]⟩, .slice none 0 0])] w fun e w' => e = .returned (.int .i64 0) ∧ Ch (fun _ => False) w w' := by
  go_enter Tryz.func143, Tryz.ntmps143
  go_wp2_with fail
  refine (kind0 _).mono ?_
  rintro e w1 ⟨rfl, hc⟩
  have HC := hid (((Ch.refl (fun _ => False) w).alloc _).trans hc (fun _ _ h => h))
  clear hc
  go_wp2_with fail
  go_ret
  exact ⟨rfl, HC.out⟩
set_option maxRecDepth 100000 in
set_option maxHeartbeats 1000000 in
theorem planNew0 (w : World) : Calls Tryz.prog 144 #[(.agg #[.int .u64 0, .int .i64 0, .int .i64 0, .int .i64 0, .int .i64 0, .string ⟨#[]⟩, .slice none 0 0])] w fun e w' => e = .returned (.int .i64 0) ∧ Ch (fun _ => False) w w' := by
  go_enter Tryz.func144, Tryz.ntmps144
  go_wp2_with fail
  refine calls_world fun W1 hW1 => ?_
  have cW : Ch (fun _ => False) w W1 := by rw [hW1]; exact (Ch.refl _ w).alloc _
  have bT : Blk W1 w.heap.size 183 #[.int .u64 0, .int .i64 0, .int .i64 0, .int .i64 0, .int .i64 0, .string ⟨#[]⟩, .slice none 0 0] := by rw [hW1]; exact Blk.new w _ _
  have HC := hid cW
  have HB := hid bT
  have hlt := bT.lt
  clear hW1 cW bT
  refine (kind0 W1).mono ?_
  rintro e w2 ⟨rfl, hc⟩
  have B2 := hc.blk HB.out id
  have HC2 := hid (HC.out.trans hc (fun _ _ h => h))
  have r0 : w2.cell? ⟨w.heap.size, 0, none⟩ = some (.int .u64 0) := B2.cell 0
  have r1 : w2.cell? ⟨w.heap.size, 1, none⟩ = some (.int .i64 0) := B2.cell 1
  have r2 : w2.cell? ⟨w.heap.size, 2, none⟩ = some (.int .i64 0) := B2.cell 2
  have r3 : w2.cell? ⟨w.heap.size, 3, none⟩ = some (.int .i64 0) := B2.cell 3
  have r4 : w2.cell? ⟨w.heap.size, 4, none⟩ = some (.int .i64 0) := B2.cell 4
  have r5 : w2.cell? ⟨w.heap.size, 5, none⟩ = some (.string ⟨#[]⟩) := B2.cell 5
  have r6 : w2.cell? ⟨w.heap.size, 6, none⟩ = some (.slice none 0 0) := B2.cell 6
  have s0 := B2.free 0
  have s1 := B2.free 1
  have s2 := B2.free 2
  have s3 := B2.free 3
  have s4 := B2.free 4
  have s5 := B2.free 5
  have s6 := B2.free 6
  clear hc
  go_wp2_with fail
  go_loopw [3, 18] (fun n i W => n = .int .i64 0 ∧ i = .int .i64 0 ∧ W = w2) (fun _ _ _ => 0)
  case atStart => exact ⟨rfl, rfl, rfl⟩
  case round =>
    obtain ⟨rfl, rfl, rfl⟩ := hrel
    go_wp2_with fail
    go_ret
    exact ⟨rfl, HC2.out⟩
end Go.Proofs.YtjcdknhejcbpiaaGreat
