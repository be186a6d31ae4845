/- The rope of an empty text is written. -/
import Derived.Test.YtefpabicgefciaaKeepF
namespace Go.Proofs.Ytefpabicgefciaa
open Go.RowKit
set_option linter.unusedVariables false
set_option linter.unusedSimpArgs false
set_option linter.unusedSectionVars false

set_option maxRecDepth 100000 in
set_option maxHeartbeats 1000000 in
theorem add0 (p : Option Addr) (w : World) : Calls Try.prog 47 #[.pointer p, (.agg #[.int .u64 0, .int .i64 0, .int .i64 0, .int .i64 0, .int .i64 0, .string ⟨#[]⟩, .slice none 0 0])] w fun e w' => ∃ rb, e = .returned (.pointer (some ⟨rb, 0, none⟩)) ∧ Blk w' rb 34 #[.int .u64 0, .int .i64 0, .int .i64 0, .int .i64 0, .int .i64 0] ∧ Ch (fun _ => False) w w' ∧ w.heap.size ≤ rb := by
  go_enter Try.func47, Try.ntmps47
  go_wp2_with fail
  go_ret
  refine ⟨w.heap.size + 1, rfl, ?_, ((Ch.refl (fun _ => False) w).alloc _).alloc _, Nat.le_succ _⟩
  have := Blk.new (w.alloc (.cells #[.int .u64 0, .int .i64 0, .int .i64 0, .int .i64 0, .int .i64 0, .string ⟨#[]⟩, .slice none 0 0] 101)) 34 #[.int .u64 0, .int .i64 0, .int .i64 0, .int .i64 0, .int .i64 0]
  simpa using this
set_option maxRecDepth 100000 in
set_option maxHeartbeats 1000000 in
theorem root0 (pb rb : Nat) (ab : Nat) (w : World) (hp : Blk w pb 138 #[.pointer (some ⟨ab, 0, none⟩), .slice none 0 0, .pointer (some ⟨rb, 0, none⟩)]) (hr : Blk w rb 34 #[.int .u64 0, .int .i64 0, .int .i64 0, .int .i64 0, .int .i64 0]) : Calls Try.prog 39 #[.pointer (some ⟨pb, 0, none⟩)] w fun e w' => e = .returned (.tuple #[(.agg #[.int .u64 0, .int .i64 0, .int .i64 0, .int .i64 0, .int .i64 0]), .int .i64 0]) ∧ Ch (fun _ => False) w w' := by
  go_enter Try.func39, Try.ntmps39
  have l1 := hp.lt
  have l2 := hr.lt
  have p1 : w.cell? ⟨pb, 1, none⟩ = some (.slice none 0 0) := hp.cell 1
  have p2 : w.cell? ⟨pb, 2, none⟩ = some (.pointer (some ⟨rb, 0, none⟩)) := hp.cell 2
  have r0 : w.cell? ⟨rb, 0, none⟩ = some (.int .u64 0) := hr.cell 0
  have r1 : w.cell? ⟨rb, 1, none⟩ = some (.int .i64 0) := hr.cell 1
  have r2 : w.cell? ⟨rb, 2, none⟩ = some (.int .i64 0) := hr.cell 2
  have r3 : w.cell? ⟨rb, 3, none⟩ = some (.int .i64 0) := hr.cell 3
  have r4 : w.cell? ⟨rb, 4, none⟩ = some (.int .i64 0) := hr.cell 4
  go_wp2_with fail
  refine bodyPost_ret (v := .tuple #[(.agg #[.int .u64 0, .int .i64 0, .int .i64 0, .int .i64 0, .int .i64 0]), .int .i64 0]) (by simp [results, Try.results39, go_sem]) rfl ⟨rfl, (Ch.refl (fun _ => False) w).alloc _⟩
set_option maxRecDepth 100000 in
set_option maxHeartbeats 1000000 in
theorem begin0 (ab n lb mb g0 g1 : Nat) (xs : List Int) (hn : n ≤ 16384) (w : World) (h : StM w ab n lb mb g0 g1 xs) : Calls Try.prog 37 #[.pointer (some ⟨ab, 0, none⟩), (.agg #[.int .u64 0, .int .i64 0, .int .i64 0, .int .i64 0, .int .i64 0, .string ⟨#[]⟩, .slice none 0 0])] w fun e w' => ∃ pb rb, e = .returned (.tuple #[.pointer (some ⟨pb, 0, none⟩), .int .i64 0]) ∧ Blk w' pb 138 #[.pointer (some ⟨ab, 0, none⟩), .slice none 0 0, .pointer (some ⟨rb, 0, none⟩)] ∧ Blk w' rb 34 #[.int .u64 0, .int .i64 0, .int .i64 0, .int .i64 0, .int .i64 0] ∧ Ch (fun _ => False) w w' := by
  go_enter Try.func37, Try.ntmps37
  go_wp2_with fail
  refine calls_world fun W1 hW1 => ?_
  have cW : Ch (fun _ => False) w W1 := by rw [hW1]; exact (Ch.refl _ w).alloc _
  have bT : Blk W1 w.heap.size 101 #[.int .u64 0, .int .i64 0, .int .i64 0, .int .i64 0, .int .i64 0, .string ⟨#[]⟩, .slice none 0 0] := by rw [hW1]; exact Blk.new w _ _
  have HC := hid cW
  have HB := hid bT
  have HM := hid (h.keep cW)
  clear hW1 cW bT h
  refine (planCheck0 ab W1).mono ?_
  rintro e w2 ⟨rfl, hc⟩
  have HC2 := hid (HC.out.trans hc (fun _ _ h => h))
  have HB2 := hid (hc.blk HB.out id)
  have HM2 := hid (HM.out.keep hc)
  clear hc
  have r0 : w2.cell? ⟨w.heap.size, 0, none⟩ = some (.int .u64 0) := HB2.out.cell 0
  have r1 : w2.cell? ⟨w.heap.size, 1, none⟩ = some (.int .i64 0) := HB2.out.cell 1
  have r2 : w2.cell? ⟨w.heap.size, 2, none⟩ = some (.int .i64 0) := HB2.out.cell 2
  have r3 : w2.cell? ⟨w.heap.size, 3, none⟩ = some (.int .i64 0) := HB2.out.cell 3
  have r4 : w2.cell? ⟨w.heap.size, 4, none⟩ = some (.int .i64 0) := HB2.out.cell 4
  have r5 : w2.cell? ⟨w.heap.size, 5, none⟩ = some (.string ⟨#[]⟩) := HB2.out.cell 5
  have r6 : w2.cell? ⟨w.heap.size, 6, none⟩ = some (.slice none 0 0) := HB2.out.cell 6
  go_wp2_with fail
  clear r0 r1 r2 r3 r4 r5 r6
  refine (planNew0 w2).mono ?_
  rintro e w3 ⟨rfl, hc⟩
  have HC3 := hid (HC2.out.trans hc (fun _ _ h => h))
  have HB3 := hid (hc.blk HB2.out id)
  have HM3 := hid (HM2.out.keep hc)
  clear hc
  go_wp2_with fail
  refine (stats_ok ab n lb mb g0 g1 xs hn w3 HM3.out).mono ?_
  rintro e w4 ⟨rfl, hc⟩
  have HC4 := hid (HC3.out.trans hc (fun _ _ h => h))
  have HB4 := hid (hc.blk HB3.out id)
  clear hc
  have hl4 := HB4.out.lt
  have r0 : w4.cell? ⟨w.heap.size, 0, none⟩ = some (.int .u64 0) := HB4.out.cell 0
  have r1 : w4.cell? ⟨w.heap.size, 1, none⟩ = some (.int .i64 0) := HB4.out.cell 1
  have r2 : w4.cell? ⟨w.heap.size, 2, none⟩ = some (.int .i64 0) := HB4.out.cell 2
  have r3 : w4.cell? ⟨w.heap.size, 3, none⟩ = some (.int .i64 0) := HB4.out.cell 3
  have r4 : w4.cell? ⟨w.heap.size, 4, none⟩ = some (.int .i64 0) := HB4.out.cell 4
  have r5 : w4.cell? ⟨w.heap.size, 5, none⟩ = some (.string ⟨#[]⟩) := HB4.out.cell 5
  have r6 : w4.cell? ⟨w.heap.size, 6, none⟩ = some (.slice none 0 0) := HB4.out.cell 6
  have hfd : ∀ W : World, (Instr.field 155 (.agg #[.int .i64 n, .int .i64 n, .int .i64 0, .int .i64 0, .int .i64 0, .int .i64 0, .int .i64 0]) 1).run Try.prog W = .ok (.int .i64 n) W := fun W => by kernel_rfl
  go_wp2_with fail
  refine calls_world fun W5 hW5 => ?_
  have c5 : Ch (fun _ => False) w4 W5 := by rw [hW5]; exact (Ch.refl _ w4).alloc _
  have b5 : Blk W5 w4.heap.size 138 #[.pointer (some ⟨ab, 0, none⟩), .slice none 0 0, .pointer none] := by rw [hW5]; exact Blk.new w4 _ _
  have HC5 := hid (HC4.out.trans c5 (fun _ _ h => h))
  have HB5 := hid b5
  have z5 : w.heap.size ≤ w4.heap.size := HC4.out.size
  clear hW5 c5 b5 r0 r1 r2 r3 r4 r5 r6
  refine (add0 _ W5).mono ?_
  rintro e w6 ⟨rb, rfl, hrb, hc, hz⟩
  have HC6 := hid (HC5.out.trans hc (fun _ _ h => h))
  have HB6 := hid (hc.blk HB5.out id)
  have HR6 := hid hrb
  clear hc hrb
  have r0 : w6.cell? ⟨w4.heap.size, 0, none⟩ = some (.pointer (some ⟨ab, 0, none⟩)) := HB6.out.cell 0
  have r1 : w6.cell? ⟨w4.heap.size, 1, none⟩ = some (.slice none 0 0) := HB6.out.cell 1
  have r2 : w6.cell? ⟨w4.heap.size, 2, none⟩ = some (.pointer none) := HB6.out.cell 2
  have s0 := HB6.out.free 0
  have s1 := HB6.out.free 1
  have s2 := HB6.out.free 2
  go_wp2_with fail
  go_ret2
  refine ⟨w4.heap.size, rb, rfl, HB6.out.put 2 _, HR6.out.far (Blk.ne HR6.out HB6.out (by decide)) _, HC6.out.set (fun ho => absurd ho (by omega)) _⟩
set_option maxRecDepth 100000 in
set_option maxHeartbeats 1000000 in
theorem write0 (ab n lb mb g0 g1 : Nat) (xs : List Int) (hn : n ≤ 16384) (w : World) (h : StM w ab n lb mb g0 g1 xs) : Calls Try.prog 24 #[.pointer (some ⟨ab, 0, none⟩), (.agg #[.int .u64 0, .int .i64 0, .int .i64 0, .int .i64 0, .int .i64 0, .string ⟨#[]⟩, .slice none 0 0])] w fun e w' => e = .returned (.tuple #[(.agg #[.int .u64 0, .int .i64 0, .int .i64 0, .int .i64 0, .int .i64 0]), .slice none 0 0, .int .i64 0]) ∧ Ch (fun _ => False) w w' := by
  go_enter Try.func24, Try.ntmps24
  go_wp2_with fail
  refine calls_world fun W1 hW1 => ?_
  have cW : Ch (fun _ => False) w W1 := by rw [hW1]; exact ((Ch.refl _ w).alloc _).alloc _
  have bR : Blk W1 (w.heap.size + 1) 34 #[.int .u64 0, .int .i64 0, .int .i64 0, .int .i64 0, .int .i64 0] := by
    rw [hW1]
    have := Blk.new (w.alloc (.cells #[.int .u64 0, .int .i64 0, .int .i64 0, .int .i64 0, .int .i64 0, .string ⟨#[]⟩, .slice none 0 0] 101)) 34 #[.int .u64 0, .int .i64 0, .int .i64 0, .int .i64 0, .int .i64 0]
    simpa using this
  have HC := hid cW
  have HR := hid bR
  have HM := hid (h.keep cW)
  clear hW1 cW bR h
  refine (begin0 ab n lb mb g0 g1 xs hn W1 HM.out).mono ?_
  rintro e w2 ⟨pb, rb, rfl, hp, hr, hc⟩
  have HC2 := hid (HC.out.trans hc (fun _ _ h => h))
  have HR2 := hid (hc.blk HR.out id)
  have HP2 := hid hp
  have HRB2 := hid hr
  have hp1 : w2.cell? ⟨pb, 1, none⟩ = some (.slice none 0 0) := hp.cell 1
  clear hc hp hr
  go_wp2_with fail
  go_loopw [5, 6] (fun f e W => f = .slice none 0 0 ∧ e = .int .i64 0 ∧ W = w2) (fun _ _ _ => 0)
  case atStart => exact ⟨rfl, rfl, rfl⟩
  case round =>
    obtain ⟨rfl, rfl, rfl⟩ := hrel
    go_wp2_with fail
    refine (root0 pb rb ab _ HP2.out HRB2.out).mono ?_
    rintro e w3 ⟨rfl, hc⟩
    have HC3 := hid (HC2.out.trans hc (fun _ _ h => h))
    have HR3 := hid (hc.blk HR2.out id)
    clear hc
    have r0 : w3.cell? ⟨w.heap.size + 1, 0, none⟩ = some (.int .u64 0) := HR3.out.cell 0
    have r1 : w3.cell? ⟨w.heap.size + 1, 1, none⟩ = some (.int .i64 0) := HR3.out.cell 1
    have r2 : w3.cell? ⟨w.heap.size + 1, 2, none⟩ = some (.int .i64 0) := HR3.out.cell 2
    have r3 : w3.cell? ⟨w.heap.size + 1, 3, none⟩ = some (.int .i64 0) := HR3.out.cell 3
    have r4 : w3.cell? ⟨w.heap.size + 1, 4, none⟩ = some (.int .i64 0) := HR3.out.cell 4
    have s0 := HR3.out.free 0
    have s1 := HR3.out.free 1
    have s2 := HR3.out.free 2
    have s3 := HR3.out.free 3
    have s4 := HR3.out.free 4
    go_wp2_with fail
    refine at_world fun W7 hW7 => ?_
    have B7 : Blk W7 (w.heap.size + 1) 34 #[.int .u64 0, .int .i64 0, .int .i64 0, .int .i64 0, .int .i64 0] := by rw [hW7]; exact ((((((((((HR3.out.put 0 _).put 1 _).put 2 _).put 3 _).put 4 _).put 0 _).put 1 _).put 2 _).put 3 _).put 4 _)
    have c7 : Ch (fun k => k = (w.heap.size + 1)) w3 W7 := by rw [hW7]; exact (((((((((((Ch.refl (fun k => k = (w.heap.size + 1)) w3).set (fun _ => rfl) _).set (fun _ => rfl) _).set (fun _ => rfl) _).set (fun _ => rfl) _).set (fun _ => rfl) _).set (fun _ => rfl) _).set (fun _ => rfl) _).set (fun _ => rfl) _).set (fun _ => rfl) _).set (fun _ => rfl) _)
    have t0 : W7.cell? ⟨(w.heap.size + 1), 0, none⟩ = some (.int .u64 0) := B7.cell 0
    have t1 : W7.cell? ⟨(w.heap.size + 1), 1, none⟩ = some (.int .i64 0) := B7.cell 1
    have t2 : W7.cell? ⟨(w.heap.size + 1), 2, none⟩ = some (.int .i64 0) := B7.cell 2
    have t3 : W7.cell? ⟨(w.heap.size + 1), 3, none⟩ = some (.int .i64 0) := B7.cell 3
    have t4 : W7.cell? ⟨(w.heap.size + 1), 4, none⟩ = some (.int .i64 0) := B7.cell 4
    refine bodyPost_ret (v := .tuple #[(.agg #[.int .u64 0, .int .i64 0, .int .i64 0, .int .i64 0, .int .i64 0]), .slice none 0 0, .int .i64 0]) ?_ rfl ⟨rfl, HC3.out.trans c7 (fun i hi e => absurd hi (by omega))⟩
    clear hW7 c7
    simp [results, Try.results24, go_sem, t0, t1, t2, t3, t4]
set_option maxRecDepth 100000 in
set_option maxHeartbeats 1000000 in
theorem rnew0 (ab n lb mb g0 g1 : Nat) (xs : List Int) (hn : n ≤ 16384) (w : World) (h : StM w ab n lb mb g0 g1 xs) : Calls Try.prog 14 #[.pointer (some ⟨ab, 0, none⟩), (.string ⟨#[]⟩)] w fun e w' => e = .returned (.tuple #[(.agg #[.int .u64 0, .int .i64 0, .int .i64 0, .int .i64 0, .int .i64 0]), .int .i64 0]) ∧ Ch (fun _ => False) w w' := by
  go_enter Try.func14, Try.ntmps14
  go_wp2_with fail
  refine calls_world fun W1 hW1 => ?_
  have cW : Ch (fun _ => False) w W1 := by rw [hW1]; exact (Ch.refl _ w).alloc _
  have bR : Blk W1 w.heap.size 34 #[.int .u64 0, .int .i64 0, .int .i64 0, .int .i64 0, .int .i64 0] := by rw [hW1]; exact Blk.new w _ _
  have HC := hid cW
  have HR := hid bR
  have HM := hid (h.keep cW)
  clear hW1 cW bR h
  refine (build0 W1).mono ?_
  rintro e w2 ⟨rfl, hc⟩
  have HC2 := hid (HC.out.trans hc (fun _ _ h => h))
  have HR2 := hid (hc.blk HR.out id)
  have HM2 := hid (HM.out.keep hc)
  clear hc
  go_wp2_with fail
  refine calls_world fun W3 hW3 => ?_
  have c3 : Ch (fun _ => False) w2 W3 := by rw [hW3]; exact (Ch.refl _ w2).alloc _
  have HC3 := hid (HC2.out.trans c3 (fun _ _ h => h))
  have HR3 := hid (c3.blk HR2.out id)
  have HM3 := hid (HM2.out.keep c3)
  clear hW3 c3
  refine (write0 ab n lb mb g0 g1 xs hn W3 HM3.out).mono ?_
  rintro e w4 ⟨rfl, hc⟩
  have HC4 := hid (HC3.out.trans hc (fun _ _ h => h))
  have HR4 := hid (hc.blk HR3.out id)
  have l4 := HR4.out.lt
  have l5 : w.heap.size ≠ w4.heap.size := Nat.ne_of_lt l4
  have l6 : w4.heap.size ≠ w.heap.size := Ne.symm l5
  clear hc
  have r0 : w4.cell? ⟨w.heap.size, 0, none⟩ = some (.int .u64 0) := HR4.out.cell 0
  have r1 : w4.cell? ⟨w.heap.size, 1, none⟩ = some (.int .i64 0) := HR4.out.cell 1
  have r2 : w4.cell? ⟨w.heap.size, 2, none⟩ = some (.int .i64 0) := HR4.out.cell 2
  have r3 : w4.cell? ⟨w.heap.size, 3, none⟩ = some (.int .i64 0) := HR4.out.cell 3
  have r4 : w4.cell? ⟨w.heap.size, 4, none⟩ = some (.int .i64 0) := HR4.out.cell 4
  have s0 := HR4.out.free 0
  have s1 := HR4.out.free 1
  have s2 := HR4.out.free 2
  have s3 := HR4.out.free 3
  have s4 := HR4.out.free 4
  go_wp2_with fail
  refine at_world fun W7 hW7 => ?_
  have B7 : Blk W7 w.heap.size 34 #[.int .u64 0, .int .i64 0, .int .i64 0, .int .i64 0, .int .i64 0] := by rw [hW7]; exact (((((HR4.out.put 0 _).put 1 _).put 2 _).put 3 _).put 4 _).alloc _
  have c7 : Ch (fun k => k = w.heap.size) w4 W7 := by rw [hW7]; exact ((((((Ch.refl (fun k => k = w.heap.size) w4).set (fun _ => rfl) _).set (fun _ => rfl) _).set (fun _ => rfl) _).set (fun _ => rfl) _).set (fun _ => rfl) _).alloc _
  have t0 : W7.cell? ⟨w.heap.size, 0, none⟩ = some (.int .u64 0) := B7.cell 0
  have t1 : W7.cell? ⟨w.heap.size, 1, none⟩ = some (.int .i64 0) := B7.cell 1
  have t2 : W7.cell? ⟨w.heap.size, 2, none⟩ = some (.int .i64 0) := B7.cell 2
  have t3 : W7.cell? ⟨w.heap.size, 3, none⟩ = some (.int .i64 0) := B7.cell 3
  have t4 : W7.cell? ⟨w.heap.size, 4, none⟩ = some (.int .i64 0) := B7.cell 4
  refine bodyPost_ret (v := .tuple #[(.agg #[.int .u64 0, .int .i64 0, .int .i64 0, .int .i64 0, .int .i64 0]), .int .i64 0]) ?_ rfl ⟨rfl, HC4.out.trans c7 (fun i hi e => absurd hi (by omega))⟩
  clear hW7 c7
  simp [results, Try.results14, go_sem, t0, t1, t2, t3, t4]
end Go.Proofs.Ytefpabicgefciaa
