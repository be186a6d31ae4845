/- Texts XKeepG, XRunesC, XRunesD, XRunesE, XRunesF, XPlaceA, XPlaceB, XKeepH, XKeepC for XPcs, by trim.py. -/
import Derived.Test.YtjcdknhejcbpiaaGreatPb08
import Derived.Test.YtjcdknhejcbpiaaGreatPb05
import Derived.Test.YtjcdknhejcbpiaaGreatPb01
import Derived.Test.YtjcdknhejcbpiaaGreatPb09
import Derived.Test.YtjcdknhejcbpiaaGreatPb04
import Derived.Test.YtjcdknhejcbpiaaGreatPb03
namespace Go.Proofs.YtjcdknhejcbpiaaGreat
open Go.RowKit
set_option linter.unusedVariables false
set_option linter.unusedSimpArgs false
set_option linter.unusedSectionVars false
set_option maxRecDepth 100000 in
set_option maxHeartbeats 1000000 in
theorem add0 (p : Option Addr) (w : World) : Calls Tryz.prog 145 #[.pointer p, (.agg #[.int .u64 0, .int .i64 0, .int .i64 0, .int .i64 0, .int .i64 0, .string ⟨#[]⟩, .slice none 0 0])] w fun e w' => ∃ rb, e = .returned (.pointer (some ⟨rb, 0, none⟩)) ∧ Blk w' rb 102 #[.int .u64 0, .int .i64 0, .int .i64 0, .int .i64 0, .int .i64 0] ∧ Ch (fun _ => False) w w' ∧ w.heap.size ≤ rb := by
  go_enter Tryz.func145, Tryz.ntmps145
  go_wp2_with fail
  go_ret
  refine ⟨w.heap.size + 1, rfl, ?_, ((Ch.refl (fun _ => False) w).alloc _).alloc _, Nat.le_succ _⟩
  have := Blk.new (w.alloc (.cells #[.int .u64 0, .int .i64 0, .int .i64 0, .int .i64 0, .int .i64 0, .string ⟨#[]⟩, .slice none 0 0] 183)) 102 #[.int .u64 0, .int .i64 0, .int .i64 0, .int .i64 0, .int .i64 0]
  simpa using this
set_option maxRecDepth 100000 in
set_option maxHeartbeats 1000000 in
theorem root0 (pb rb : Nat) (ab : Nat) (w : World) (hp : Blk w pb 248 #[.pointer (some ⟨ab, 0, none⟩), .slice none 0 0, .pointer (some ⟨rb, 0, none⟩)]) (hr : Blk w rb 102 #[.int .u64 0, .int .i64 0, .int .i64 0, .int .i64 0, .int .i64 0]) : Calls Tryz.prog 121 #[.pointer (some ⟨pb, 0, none⟩)] w fun e w' => e = .returned (.tuple #[(.agg #[.int .u64 0, .int .i64 0, .int .i64 0, .int .i64 0, .int .i64 0]), .int .i64 0]) ∧ Ch (fun _ => False) w w' := by
  go_enter Tryz.func121, Tryz.ntmps121
  have l1 := hp.lt
  have l2 := hr.lt
  have p1 : w.cell? ⟨pb, 1, none⟩ = some (.slice none 0 0) := hp.cell 1
  have p2 : w.cell? ⟨pb, 2, none⟩ = some (.pointer (some ⟨rb, 0, none⟩)) := hp.cell 2
  have r0 : w.cell? ⟨rb, 0, none⟩ = some (.int .u64 0) := hr.cell 0
  have r1 : w.cell? ⟨rb, 1, none⟩ = some (.int .i64 0) := hr.cell 1
  have r2 : w.cell? ⟨rb, 2, none⟩ = some (.int .i64 0) := hr.cell 2
  have r3 : w.cell? ⟨rb, 3, none⟩ = some (.int .i64 0) := hr.cell 3
  have r4 : w.cell? ⟨rb, 4, none⟩ = some (.int .i64 0) := hr.cell 4
  go_wp2_with fail
  refine bodyPost_ret (v := .tuple #[(.agg #[.int .u64 0, .int .i64 0, .int .i64 0, .int .i64 0, .int .i64 0]), .int .i64 0]) (by simp [results, Tryz.results121, go_sem]) rfl ⟨rfl, (Ch.refl (fun _ => False) w).alloc _⟩
set_option maxRecDepth 100000 in
set_option maxHeartbeats 1000000 in
theorem begin0 (ab n lb mb g0 g1 : Nat) (xs : List Int) (hn : n ≤ 16384) (w : World) (h : StM w ab n lb mb g0 g1 xs) : Calls Tryz.prog 119 #[.pointer (some ⟨ab, 0, none⟩), (.agg #[.int .u64 0, .int .i64 0, .int .i64 0, .int .i64 0, .int .i64 0, .string ⟨#[]⟩, .slice none 0 0])] w fun e w' => ∃ pb rb, e = .returned (.tuple #[.pointer (some ⟨pb, 0, none⟩), .int .i64 0]) ∧ Blk w' pb 248 #[.pointer (some ⟨ab, 0, none⟩), .slice none 0 0, .pointer (some ⟨rb, 0, none⟩)] ∧ Blk w' rb 102 #[.int .u64 0, .int .i64 0, .int .i64 0, .int .i64 0, .int .i64 0] ∧ Ch (fun _ => False) w w' := by
  go_enter Tryz.func119, Tryz.ntmps119
  go_wp2_with fail
  refine calls_world fun W1 hW1 => ?_
  have cW : Ch (fun _ => False) w W1 := by rw [hW1]; exact (Ch.refl _ w).alloc _
  have bT : Blk W1 w.heap.size 183 #[.int .u64 0, .int .i64 0, .int .i64 0, .int .i64 0, .int .i64 0, .string ⟨#[]⟩, .slice none 0 0] := by rw [hW1]; exact Blk.new w _ _
  have HC := hid cW
  have HB := hid bT
  have HM := hid (h.keep cW)
  clear hW1 cW bT h
  refine (planCheck0 ab W1).mono ?_
  rintro e w2 ⟨rfl, hc⟩
  have HC2 := hid (HC.out.trans hc (fun _ _ h => h))
  have HB2 := hid (hc.blk HB.out id)
  have HM2 := hid (HM.out.keep hc)
  clear hc
  have r0 : w2.cell? ⟨w.heap.size, 0, none⟩ = some (.int .u64 0) := HB2.out.cell 0
  have r1 : w2.cell? ⟨w.heap.size, 1, none⟩ = some (.int .i64 0) := HB2.out.cell 1
  have r2 : w2.cell? ⟨w.heap.size, 2, none⟩ = some (.int .i64 0) := HB2.out.cell 2
  have r3 : w2.cell? ⟨w.heap.size, 3, none⟩ = some (.int .i64 0) := HB2.out.cell 3
  have r4 : w2.cell? ⟨w.heap.size, 4, none⟩ = some (.int .i64 0) := HB2.out.cell 4
  have r5 : w2.cell? ⟨w.heap.size, 5, none⟩ = some (.string ⟨#[]⟩) := HB2.out.cell 5
  have r6 : w2.cell? ⟨w.heap.size, 6, none⟩ = some (.slice none 0 0) := HB2.out.cell 6
  go_wp2_with fail
  clear r0 r1 r2 r3 r4 r5 r6
  refine (planNew0 w2).mono ?_
  rintro e w3 ⟨rfl, hc⟩
  have HC3 := hid (HC2.out.trans hc (fun _ _ h => h))
  have HB3 := hid (hc.blk HB2.out id)
  have HM3 := hid (HM2.out.keep hc)
  clear hc
  go_wp2_with fail
  refine (stats_ok ab n lb mb g0 g1 xs hn w3 HM3.out).mono ?_
  rintro e w4 ⟨rfl, hc⟩
  have HC4 := hid (HC3.out.trans hc (fun _ _ h => h))
  have HB4 := hid (hc.blk HB3.out id)
  clear hc
  have hl4 := HB4.out.lt
  have r0 : w4.cell? ⟨w.heap.size, 0, none⟩ = some (.int .u64 0) := HB4.out.cell 0
  have r1 : w4.cell? ⟨w.heap.size, 1, none⟩ = some (.int .i64 0) := HB4.out.cell 1
  have r2 : w4.cell? ⟨w.heap.size, 2, none⟩ = some (.int .i64 0) := HB4.out.cell 2
  have r3 : w4.cell? ⟨w.heap.size, 3, none⟩ = some (.int .i64 0) := HB4.out.cell 3
  have r4 : w4.cell? ⟨w.heap.size, 4, none⟩ = some (.int .i64 0) := HB4.out.cell 4
  have r5 : w4.cell? ⟨w.heap.size, 5, none⟩ = some (.string ⟨#[]⟩) := HB4.out.cell 5
  have r6 : w4.cell? ⟨w.heap.size, 6, none⟩ = some (.slice none 0 0) := HB4.out.cell 6
  have hfd : ∀ W : World, (Instr.field 97 (.agg #[.int .i64 n, .int .i64 n, .int .i64 0, .int .i64 0, .int .i64 0, .int .i64 0, .int .i64 0]) 1).run Tryz.prog W = .ok (.int .i64 n) W := fun W => by kernel_rfl
  go_wp2_with fail
  refine calls_world fun W5 hW5 => ?_
  have c5 : Ch (fun _ => False) w4 W5 := by rw [hW5]; exact (Ch.refl _ w4).alloc _
  have b5 : Blk W5 w4.heap.size 248 #[.pointer (some ⟨ab, 0, none⟩), .slice none 0 0, .pointer none] := by rw [hW5]; exact Blk.new w4 _ _
  have HC5 := hid (HC4.out.trans c5 (fun _ _ h => h))
  have HB5 := hid b5
  have z5 : w.heap.size ≤ w4.heap.size := HC4.out.size
  clear hW5 c5 b5 r0 r1 r2 r3 r4 r5 r6
  refine (add0 _ W5).mono ?_
  rintro e w6 ⟨rb, rfl, hrb, hc, hz⟩
  have HC6 := hid (HC5.out.trans hc (fun _ _ h => h))
  have HB6 := hid (hc.blk HB5.out id)
  have HR6 := hid hrb
  clear hc hrb
  have r0 : w6.cell? ⟨w4.heap.size, 0, none⟩ = some (.pointer (some ⟨ab, 0, none⟩)) := HB6.out.cell 0
  have r1 : w6.cell? ⟨w4.heap.size, 1, none⟩ = some (.slice none 0 0) := HB6.out.cell 1
  have r2 : w6.cell? ⟨w4.heap.size, 2, none⟩ = some (.pointer none) := HB6.out.cell 2
  have s0 := HB6.out.free 0
  have s1 := HB6.out.free 1
  have s2 := HB6.out.free 2
  go_wp2_with fail
  go_ret2
  refine ⟨w4.heap.size, rb, rfl, HB6.out.put 2 _, HR6.out.far (Blk.ne HR6.out HB6.out (by decide)) _, HC6.out.set (fun ho => absurd ho (by omega)) _⟩
set_option maxRecDepth 100000 in
set_option maxHeartbeats 1000000 in
theorem write0 (ab n lb mb g0 g1 : Nat) (xs : List Int) (hn : n ≤ 16384) (w : World) (h : StM w ab n lb mb g0 g1 xs) : Calls Tryz.prog 81 #[.pointer (some ⟨ab, 0, none⟩), (.agg #[.int .u64 0, .int .i64 0, .int .i64 0, .int .i64 0, .int .i64 0, .string ⟨#[]⟩, .slice none 0 0])] w fun e w' => e = .returned (.tuple #[(.agg #[.int .u64 0, .int .i64 0, .int .i64 0, .int .i64 0, .int .i64 0]), .slice none 0 0, .int .i64 0]) ∧ Ch (fun _ => False) w w' := by
  go_enter Tryz.func81, Tryz.ntmps81
  go_wp2_with fail
  refine calls_world fun W1 hW1 => ?_
  have cW : Ch (fun _ => False) w W1 := by rw [hW1]; exact ((Ch.refl _ w).alloc _).alloc _
  have bR : Blk W1 (w.heap.size + 1) 102 #[.int .u64 0, .int .i64 0, .int .i64 0, .int .i64 0, .int .i64 0] := by
    rw [hW1]
    have := Blk.new (w.alloc (.cells #[.int .u64 0, .int .i64 0, .int .i64 0, .int .i64 0, .int .i64 0, .string ⟨#[]⟩, .slice none 0 0] 183)) 102 #[.int .u64 0, .int .i64 0, .int .i64 0, .int .i64 0, .int .i64 0]
    simpa using this
  have HC := hid cW
  have HR := hid bR
  have HM := hid (h.keep cW)
  clear hW1 cW bR h
  refine (begin0 ab n lb mb g0 g1 xs hn W1 HM.out).mono ?_
  rintro e w2 ⟨pb, rb, rfl, hp, hr, hc⟩
  have HC2 := hid (HC.out.trans hc (fun _ _ h => h))
  have HR2 := hid (hc.blk HR.out id)
  have HP2 := hid hp
  have HRB2 := hid hr
  have hp1 : w2.cell? ⟨pb, 1, none⟩ = some (.slice none 0 0) := hp.cell 1
  clear hc hp hr
  go_wp2_with fail
  go_loopw [5, 6] (fun f e W => f = .slice none 0 0 ∧ e = .int .i64 0 ∧ W = w2) (fun _ _ _ => 0)
  case atStart => exact ⟨rfl, rfl, rfl⟩
  case round =>
    obtain ⟨rfl, rfl, rfl⟩ := hrel
    go_wp2_with fail
    refine (root0 pb rb ab _ HP2.out HRB2.out).mono ?_
    rintro e w3 ⟨rfl, hc⟩
    have HC3 := hid (HC2.out.trans hc (fun _ _ h => h))
    have HR3 := hid (hc.blk HR2.out id)
    clear hc
    have r0 : w3.cell? ⟨w.heap.size + 1, 0, none⟩ = some (.int .u64 0) := HR3.out.cell 0
    have r1 : w3.cell? ⟨w.heap.size + 1, 1, none⟩ = some (.int .i64 0) := HR3.out.cell 1
    have r2 : w3.cell? ⟨w.heap.size + 1, 2, none⟩ = some (.int .i64 0) := HR3.out.cell 2
    have r3 : w3.cell? ⟨w.heap.size + 1, 3, none⟩ = some (.int .i64 0) := HR3.out.cell 3
    have r4 : w3.cell? ⟨w.heap.size + 1, 4, none⟩ = some (.int .i64 0) := HR3.out.cell 4
    have s0 := HR3.out.free 0
    have s1 := HR3.out.free 1
    have s2 := HR3.out.free 2
    have s3 := HR3.out.free 3
    have s4 := HR3.out.free 4
    go_wp2_with fail
    refine at_world fun W7 hW7 => ?_
    have B7 : Blk W7 (w.heap.size + 1) 102 #[.int .u64 0, .int .i64 0, .int .i64 0, .int .i64 0, .int .i64 0] := by rw [hW7]; exact ((((((((((HR3.out.put 0 _).put 1 _).put 2 _).put 3 _).put 4 _).put 0 _).put 1 _).put 2 _).put 3 _).put 4 _)
    have c7 : Ch (fun k => k = (w.heap.size + 1)) w3 W7 := by rw [hW7]; exact (((((((((((Ch.refl (fun k => k = (w.heap.size + 1)) w3).set (fun _ => rfl) _).set (fun _ => rfl) _).set (fun _ => rfl) _).set (fun _ => rfl) _).set (fun _ => rfl) _).set (fun _ => rfl) _).set (fun _ => rfl) _).set (fun _ => rfl) _).set (fun _ => rfl) _).set (fun _ => rfl) _)
    have t0 : W7.cell? ⟨(w.heap.size + 1), 0, none⟩ = some (.int .u64 0) := B7.cell 0
    have t1 : W7.cell? ⟨(w.heap.size + 1), 1, none⟩ = some (.int .i64 0) := B7.cell 1
    have t2 : W7.cell? ⟨(w.heap.size + 1), 2, none⟩ = some (.int .i64 0) := B7.cell 2
    have t3 : W7.cell? ⟨(w.heap.size + 1), 3, none⟩ = some (.int .i64 0) := B7.cell 3
    have t4 : W7.cell? ⟨(w.heap.size + 1), 4, none⟩ = some (.int .i64 0) := B7.cell 4
    refine bodyPost_ret (v := .tuple #[(.agg #[.int .u64 0, .int .i64 0, .int .i64 0, .int .i64 0, .int .i64 0]), .slice none 0 0, .int .i64 0]) ?_ rfl ⟨rfl, HC3.out.trans c7 (fun i hi e => absurd hi (by omega))⟩
    clear hW7 c7
    simp [results, Tryz.results81, go_sem, t0, t1, t2, t3, t4]
set_option maxRecDepth 100000 in
set_option maxHeartbeats 1000000 in
theorem rnew0 (ab n lb mb g0 g1 : Nat) (xs : List Int) (hn : n ≤ 16384) (w : World) (h : StM w ab n lb mb g0 g1 xs) : Calls Tryz.prog 47 #[.pointer (some ⟨ab, 0, none⟩), (.string ⟨#[]⟩)] w fun e w' => e = .returned (.tuple #[(.agg #[.int .u64 0, .int .i64 0, .int .i64 0, .int .i64 0, .int .i64 0]), .int .i64 0]) ∧ Ch (fun _ => False) w w' := by
  go_enter Tryz.func47, Tryz.ntmps47
  go_wp2_with fail
  refine calls_world fun W1 hW1 => ?_
  have cW : Ch (fun _ => False) w W1 := by rw [hW1]; exact (Ch.refl _ w).alloc _
  have bR : Blk W1 w.heap.size 102 #[.int .u64 0, .int .i64 0, .int .i64 0, .int .i64 0, .int .i64 0] := by rw [hW1]; exact Blk.new w _ _
  have HC := hid cW
  have HR := hid bR
  have HM := hid (h.keep cW)
  clear hW1 cW bR h
  refine (build0 W1).mono ?_
  rintro e w2 ⟨rfl, hc⟩
  have HC2 := hid (HC.out.trans hc (fun _ _ h => h))
  have HR2 := hid (hc.blk HR.out id)
  have HM2 := hid (HM.out.keep hc)
  clear hc
  go_wp2_with fail
  refine calls_world fun W3 hW3 => ?_
  have c3 : Ch (fun _ => False) w2 W3 := by rw [hW3]; exact (Ch.refl _ w2).alloc _
  have HC3 := hid (HC2.out.trans c3 (fun _ _ h => h))
  have HR3 := hid (c3.blk HR2.out id)
  have HM3 := hid (HM2.out.keep c3)
  clear hW3 c3
  refine (write0 ab n lb mb g0 g1 xs hn W3 HM3.out).mono ?_
  rintro e w4 ⟨rfl, hc⟩
  have HC4 := hid (HC3.out.trans hc (fun _ _ h => h))
  have HR4 := hid (hc.blk HR3.out id)
  have l4 := HR4.out.lt
  have l5 : w.heap.size ≠ w4.heap.size := Nat.ne_of_lt l4
  have l6 : w4.heap.size ≠ w.heap.size := Ne.symm l5
  clear hc
  have r0 : w4.cell? ⟨w.heap.size, 0, none⟩ = some (.int .u64 0) := HR4.out.cell 0
  have r1 : w4.cell? ⟨w.heap.size, 1, none⟩ = some (.int .i64 0) := HR4.out.cell 1
  have r2 : w4.cell? ⟨w.heap.size, 2, none⟩ = some (.int .i64 0) := HR4.out.cell 2
  have r3 : w4.cell? ⟨w.heap.size, 3, none⟩ = some (.int .i64 0) := HR4.out.cell 3
  have r4 : w4.cell? ⟨w.heap.size, 4, none⟩ = some (.int .i64 0) := HR4.out.cell 4
  have s0 := HR4.out.free 0
  have s1 := HR4.out.free 1
  have s2 := HR4.out.free 2
  have s3 := HR4.out.free 3
  have s4 := HR4.out.free 4
  go_wp2_with fail
  refine at_world fun W7 hW7 => ?_
  have B7 : Blk W7 w.heap.size 102 #[.int .u64 0, .int .i64 0, .int .i64 0, .int .i64 0, .int .i64 0] := by rw [hW7]; exact (((((HR4.out.put 0 _).put 1 _).put 2 _).put 3 _).put 4 _).alloc _
  have c7 : Ch (fun k => k = w.heap.size) w4 W7 := by rw [hW7]; exact ((((((Ch.refl (fun k => k = w.heap.size) w4).set (fun _ => rfl) _).set (fun _ => rfl) _).set (fun _ => rfl) _).set (fun _ => rfl) _).set (fun _ => rfl) _).alloc _
  have t0 : W7.cell? ⟨w.heap.size, 0, none⟩ = some (.int .u64 0) := B7.cell 0
  have t1 : W7.cell? ⟨w.heap.size, 1, none⟩ = some (.int .i64 0) := B7.cell 1
  have t2 : W7.cell? ⟨w.heap.size, 2, none⟩ = some (.int .i64 0) := B7.cell 2
  have t3 : W7.cell? ⟨w.heap.size, 3, none⟩ = some (.int .i64 0) := B7.cell 3
  have t4 : W7.cell? ⟨w.heap.size, 4, none⟩ = some (.int .i64 0) := B7.cell 4
  refine bodyPost_ret (v := .tuple #[(.agg #[.int .u64 0, .int .i64 0, .int .i64 0, .int .i64 0, .int .i64 0]), .int .i64 0]) ?_ rfl ⟨rfl, HC4.out.trans c7 (fun i hi e => absurd hi (by omega))⟩
  clear hW7 c7
  simp [results, Tryz.results47, go_sem, t0, t1, t2, t3, t4]
end Go.Proofs.YtjcdknhejcbpiaaGreat
namespace Go.Proofs.YtjcdknhejcbpiaaGreat
open Go.RowKit
set_option linter.unusedVariables false
set_option maxRecDepth 100000
end Go.Proofs.YtjcdknhejcbpiaaGreat
namespace Go.Proofs.YtjcdknhejcbpiaaGreat
open Go.RowKit
set_option linter.unusedVariables false
end Go.Proofs.YtjcdknhejcbpiaaGreat
namespace Go.Proofs.YtjcdknhejcbpiaaGreat
open Go.RowKit
set_option linter.unusedVariables false
set_option linter.unusedSimpArgs false
def dlen (l : List Int) : Int := ann (lk l 0)
def dval (l : List Int) : Int := acc l (dlen l) (dlen l).toNat
/-- Do the first bytes encode a rune? -/
def dgood (l : List Int) : Prop := 0 < l.length ∧ 1 ≤ dlen l ∧ dlen l ≤ l.length ∧ contTo l (dlen l).toNat ∧ rlen (dval l) = dlen l
end Go.Proofs.YtjcdknhejcbpiaaGreat
namespace Go.Proofs.YtjcdknhejcbpiaaGreat
open Go.RowKit
set_option linter.unusedVariables false
set_option linter.unusedSimpArgs false
/-- What Decode returns. -/
def DecAny (l : List Int) (w : World) (e : Ending) (w' : World) : Prop :=
  Below w.heap.size w w' ∧ (dgood l ∧ e = .returned (.tuple #[.int .i64 (dval l), .int .i64 (dlen l), .int .i64 0]) ∨ ¬ dgood l ∧ e = .returned (.tuple #[.int .i64 0, .int .i64 0, .int .i64 (if l.length = 0 then 3 else 11)]))
theorem size_nil {s : ByteArray} (h : s.size = 0) : s.toList.isEmpty = true := by
  rw [ByteArray.toList_eq]
  have : s.data.toList.length = 0 := by simpa using h
  rw [List.eq_nil_of_length_eq_zero this]; rfl
theorem dgood_nil {l : List Int} (h : l.length = 0) : ¬ dgood l := fun hg => by have := hg.1; omega
theorem dec_nil (s : ByteArray) (w : World) (hs : s.size = 0) : Calls Tryz.prog 141 #[.string s] w fun e w' => e = .returned (.tuple #[.int .i64 0, .int .i64 0, .int .i64 3]) ∧ w = w' := by
  have he := size_nil hs
  clear hs
  go_enter Tryz.func141, Tryz.ntmps141
  go_wp2_with fail
  go_ret3
  exact ⟨rfl, rfl⟩
set_option maxHeartbeats 400000 in
theorem dec_short (s : ByteArray) (w : World) (hs : 0 < s.size) (hm : s.size ≤ 1000000) (h : ann (lk (bs s) 0) = 0 ∨ (s.size : Int) < ann (lk (bs s) 0)) : Calls Tryz.prog 141 #[.string s] w fun e w' => e = .returned (.tuple #[.int .i64 0, .int .i64 0, .int .i64 11]) ∧ w = w' := by
  have he := size_data hs
  have h0 := bs_get s 0 hs
  go_enter Tryz.func141, Tryz.ntmps141
  go_wp2_with fail
  refine (ann_any _ _).mono ?_
  rintro e w0 ⟨rfl, rfl⟩
  rcases h with h | h
  · rw [h]
    go_wp2_with fail
    go_ret3
    exact ⟨rfl, rfl⟩
  · have d0 : (ann (lk (bs s) 0) == 0) = false := by rw [beq_eq_false_iff_ne]; omega
    have d1 : decide ((s.size : Int) < ann (lk (bs s) 0)) = true := by simpa using h
    go_wp2_with fail
    go_ret3
    exact ⟨rfl, rfl⟩
theorem decP_any {l : List Int} {n : Nat} {ni : Int} {w w' : World} {e : Ending} (hi : ni = n) (hn : dlen l = ni) (h0 : 0 < l.length) (h1 : 1 ≤ n) (h2 : n ≤ l.length) (h : DecP l n ni w e w') : DecAny l w e w' := by
  obtain ⟨rfl, h⟩ := h
  refine ⟨Below.refl _ _, ?_⟩
  have hg : dgood l ↔ contTo l n ∧ rlen (acc l ni n) = ni := by
    unfold dgood dval
    rw [hn, show ni.toNat = n by omega]
    constructor
    · exact fun h => h.2.2.2
    · exact fun h => ⟨h0, by omega, by omega, h⟩
  rcases h with ⟨h, rfl⟩ | ⟨h, rfl⟩
  · refine .inl ⟨hg.2 h, ?_⟩
    unfold dval
    rw [hn, show ni.toNat = n by omega]
  · refine .inr ⟨fun h' => h (hg.1 h'), ?_⟩
    rw [if_neg (by omega)]
theorem dec_any (s : ByteArray) (w : World) (hm : s.size ≤ 1000000) : Calls Tryz.prog 141 #[.string s] w (DecAny (bs s) w) := by
  have hl := bs_length s
  by_cases h0 : s.size = 0
  · exact (dec_nil s w h0).mono fun e w' ⟨he, hw⟩ => hw ▸ ⟨Below.refl _ _, .inr ⟨dgood_nil (by omega), by rw [he, if_pos (by omega)]⟩⟩
  · by_cases hn : ann (lk (bs s) 0) = 0 ∨ (s.size : Int) < ann (lk (bs s) 0)
    · refine (dec_short s w (by omega) hm hn).mono fun e w' ⟨he, hw⟩ => hw ▸ ⟨Below.refl _ _, .inr ⟨fun hg => ?_, by rw [he, if_neg (by omega)]⟩⟩
      have h1 := hg.2.1
      have h2 := hg.2.2.1
      unfold dlen at h1 h2
      omega
    · rcases ann_cases (lk (bs s) 0) with h | h | h | h | h
      · exact absurd (.inl h) hn
      · exact (dec1_any s w (by omega) hm h).mono fun e w' hp => decP_any (by rfl) h (by omega) (by omega) (by omega) hp
      · exact (dec2_any s w (by omega) hm h).mono fun e w' hp => decP_any (by rfl) h (by omega) (by omega) (by omega) hp
      · exact (dec3_any s w (by omega) hm h).mono fun e w' hp => decP_any (by rfl) h (by omega) (by omega) (by omega) hp
      · exact (dec4_any s w (by omega) hm h).mono fun e w' hp => decP_any (by rfl) h (by omega) (by omega) (by omega) hp
/-- Valid. -/
inductive Vd : List Int → Prop
  | nil {l : List Int} : l.length = 0 → Vd l
  | step {l : List Int} : dgood l → Vd (l.drop (dlen l).toNat) → Vd l
theorem vd_step {l : List Int} (h : dgood l) : Vd l ↔ Vd (l.drop (dlen l).toNat) := by
  constructor
  · intro hv
    cases hv with
    | nil h0 => exact absurd h.1 (by omega)
    | step _ hv => exact hv
  · exact Vd.step h
theorem vd_not {l : List Int} (h : ¬ dgood l) (h0 : 0 < l.length) : ¬ Vd l := fun hv => by
  cases hv with
  | nil h1 => omega
  | step hg _ => exact h hg
open Classical in
noncomputable def vdB (l : List Int) : Bool := decide (Vd l)
open Classical in
theorem vdB_true {l : List Int} (h : Vd l) : vdB l = true := decide_eq_true h
open Classical in
theorem vdB_false {l : List Int} (h : ¬ Vd l) : vdB l = false := decide_eq_false h
def strSize : Value → Nat
  | .string s => s.size
  | _ => 0
theorem bs_drop (s : ByteArray) (n : Nat) : bs (s.extract n s.size) = (bs s).drop n := by
  unfold bs
  rw [← List.map_drop]
  congr 1
  simp only [ByteArray.data_extract, Array.toList_extract, List.extract_eq_take_drop]
  rw [List.take_of_length_le (by simp)]
set_option maxHeartbeats 400000 in
theorem valid_any (s : ByteArray) (w : World) (hm : s.size ≤ 1000000) : Calls Tryz.prog 115 #[.string s] w fun e w' => e = .returned (.bool (vdB (bs s))) ∧ Below w.heap.size w w' := by
  go_enter Tryz.func115, Tryz.ntmps115
  go_wp2_with fail
  go_loopw [0] (fun v wr => ∃ t : ByteArray, v = .string t ∧ t.size ≤ s.size ∧ (Vd (bs s) ↔ Vd (bs t)) ∧ Below w.heap.size w wr) (fun v _ => strSize v)
  case atStart => exact ⟨s, rfl, Nat.le_refl _, Iff.rfl, Below.refl _ _⟩
  case round =>
    obtain ⟨t, rfl, hts, hv, hbel⟩ := hrel
    have Hv := hid hv
    clear hv
    by_cases h0 : t.size = 0
    · have he := size_nil h0
      go_wp2_with fail
      go_ret
      exact ⟨by rw [vdB_true (Hv.out.2 (Vd.nil (by rw [bs_length]; exact h0)))]; rfl, hbel⟩
    · have he := size_data (s := t) (by omega)
      go_wp2_with fail
      refine (dec_any t _ (by omega)).mono ?_
      rintro e w1 ⟨hb1, ⟨hg, rfl⟩ | ⟨hg, rfl⟩⟩
      · obtain ⟨n, hn⟩ := Int.eq_ofNat_of_zero_le (by have := hg.2.1; omega : 0 ≤ dlen (bs t))
        have hn1 := hg.2.1
        have hn2 := hg.2.2.1
        rw [bs_length] at hn2
        have hn3 : 1 ≤ n ∧ n ≤ t.size := by omega
        obtain ⟨g1, g2⟩ := hn3
        have Hg := hid hg
        have Hn := hid hn
        rw [hn]
        clear hg hn hn1 hn2
        go_wp2_with fail
        go_roundw
        case rel =>
          refine ⟨t.extract n t.size, rfl, ?_, ?_, hbel.trans (hb1.mono hbel.size)⟩
          · simp [ByteArray.size_extract]; omega
          · rw [Hv.out, vd_step Hg.out, Hn.out, bs_drop]; rfl
        case measure => simp [strSize, ByteArray.size_extract]; omega
      · have h3 : (if (bs t).length = 0 then (3 : Int) else 11) = 11 := by rw [if_neg (by rw [bs_length]; exact h0)]
        rw [h3]
        go_wp2_with fail
        go_ret
        exact ⟨by rw [vdB_false (fun h => vd_not hg (by rw [bs_length]; omega) (Hv.out.1 h))]; rfl, hbel.trans (hb1.mono hbel.size)⟩
end Go.Proofs.YtjcdknhejcbpiaaGreat
namespace Go.Proofs.YtjcdknhejcbpiaaGreat
open Go.RowKit
set_option linter.unusedVariables false
set_option linter.unusedSimpArgs false
/-- A configuration. -/
structure Cf where
  sl : Int
  ge : Int
  cl : Int
  re : Int
  qu : Int
  ba : Int
  fe : Int
  tx : ByteArray
def Cf.v (c : Cf) : Value := .agg #[.int .i64 c.sl, .int .u64 c.ge, .int .i64 c.cl, .int .i64 c.re, .int .i64 c.qu, .int .i64 c.ba, .int .i64 c.fe, .string c.tx]
def Cf.nums (c : Cf) : Prop := (1 ≤ c.sl ∧ c.sl ≤ 16384) ∧ (1 ≤ c.ge ∧ c.ge ≤ 4294967295) ∧ (0 ≤ c.cl ∧ c.cl ≤ 8) ∧ (0 ≤ c.re ∧ c.re ≤ 8) ∧ (1 ≤ c.qu ∧ c.qu ≤ 64) ∧ (1 ≤ c.ba ∧ c.ba ≤ 16) ∧ (1 ≤ c.fe ∧ c.fe ≤ 64)
open Classical in
/-- The error of a configuration. -/
noncomputable def ckE (c : Cf) : Int := if ¬ c.nums then 2 else if 65536 < c.tx.size then 5 else if vdB (bs c.tx) = false then 11 else 0
def winB (n lo hi : Int) : Bool := decide (lo ≤ n ∧ n ≤ hi)
theorem cwithin_any (n lo hi : Int) (w : World) : Calls Tryz.prog 114 #[.int .i64 n, .int .i64 lo, .int .i64 hi] w fun e w' => e = .returned (.bool (winB n lo hi)) ∧ w = w' := by
  by_cases h1 : lo ≤ n
  · by_cases h2 : n ≤ hi
    · rw [show winB n lo hi = true by simp [winB, h1, h2]]
      go_enter Tryz.func114, Tryz.ntmps114
      go_wp2_with fail
      go_ret
      exact ⟨rfl, rfl⟩
    · rw [show winB n lo hi = false by simp [winB, h2]]
      go_enter Tryz.func114, Tryz.ntmps114
      go_wp2_with fail
      go_ret
      exact ⟨rfl, rfl⟩
  · rw [show winB n lo hi = false by simp [winB, h1]]
    go_enter Tryz.func114, Tryz.ntmps114
    go_wp2_with fail
    go_ret
    exact ⟨rfl, rfl⟩
theorem check_f00 (sl ge cl re qu ba fe : Int) (tx : ByteArray) (w : World) (hsl : winB sl 1 16384 = false) : Calls Tryz.prog 78 #[.agg #[.int .i64 sl, .int .u64 ge, .int .i64 cl, .int .i64 re, .int .i64 qu, .int .i64 ba, .int .i64 fe, .string tx]] w (fun e w' => e = .returned (.int .i64 2) ∧ Below w.heap.size w w') := by
  go_enter Tryz.func78, Tryz.ntmps78
  go_wp2_with (go_at_call 114; refine (cwithin_any _ _ _ _).mono ?_; rintro e w' ⟨rfl, rfl⟩)
  go_ret
  exact ⟨rfl, (Below.refl _ _).alloc (Nat.le_refl _) _⟩
theorem check_f10 (sl ge cl re qu ba fe : Int) (tx : ByteArray) (w : World) (hsl : winB sl 1 16384 = true) (hge : decide (ge < 1) = true) : Calls Tryz.prog 78 #[.agg #[.int .i64 sl, .int .u64 ge, .int .i64 cl, .int .i64 re, .int .i64 qu, .int .i64 ba, .int .i64 fe, .string tx]] w (fun e w' => e = .returned (.int .i64 2) ∧ Below w.heap.size w w') := by
  go_enter Tryz.func78, Tryz.ntmps78
  go_wp2_with (go_at_call 114; refine (cwithin_any _ _ _ _).mono ?_; rintro e w' ⟨rfl, rfl⟩)
  go_ret
  exact ⟨rfl, (Below.refl _ _).alloc (Nat.le_refl _) _⟩
theorem check_f11 (sl ge cl re qu ba fe : Int) (tx : ByteArray) (w : World) (hsl : winB sl 1 16384 = true) (hge : decide (ge < 1) = false) (kge : decide ((4294967295 : Int) < ge) = true) : Calls Tryz.prog 78 #[.agg #[.int .i64 sl, .int .u64 ge, .int .i64 cl, .int .i64 re, .int .i64 qu, .int .i64 ba, .int .i64 fe, .string tx]] w (fun e w' => e = .returned (.int .i64 2) ∧ Below w.heap.size w w') := by
  go_enter Tryz.func78, Tryz.ntmps78
  go_wp2_with (go_at_call 114; refine (cwithin_any _ _ _ _).mono ?_; rintro e w' ⟨rfl, rfl⟩)
  go_ret
  exact ⟨rfl, (Below.refl _ _).alloc (Nat.le_refl _) _⟩
theorem check_f20 (sl ge cl re qu ba fe : Int) (tx : ByteArray) (w : World) (hsl : winB sl 1 16384 = true) (hge : decide (ge < 1) = false) (kge : decide ((4294967295 : Int) < ge) = false) (hcl : winB cl 0 8 = false) : Calls Tryz.prog 78 #[.agg #[.int .i64 sl, .int .u64 ge, .int .i64 cl, .int .i64 re, .int .i64 qu, .int .i64 ba, .int .i64 fe, .string tx]] w (fun e w' => e = .returned (.int .i64 2) ∧ Below w.heap.size w w') := by
  go_enter Tryz.func78, Tryz.ntmps78
  go_wp2_with (go_at_call 114; refine (cwithin_any _ _ _ _).mono ?_; rintro e w' ⟨rfl, rfl⟩)
  go_ret
  exact ⟨rfl, (Below.refl _ _).alloc (Nat.le_refl _) _⟩
theorem check_f30 (sl ge cl re qu ba fe : Int) (tx : ByteArray) (w : World) (hsl : winB sl 1 16384 = true) (hge : decide (ge < 1) = false) (kge : decide ((4294967295 : Int) < ge) = false) (hcl : winB cl 0 8 = true) (hre : winB re 0 8 = false) : Calls Tryz.prog 78 #[.agg #[.int .i64 sl, .int .u64 ge, .int .i64 cl, .int .i64 re, .int .i64 qu, .int .i64 ba, .int .i64 fe, .string tx]] w (fun e w' => e = .returned (.int .i64 2) ∧ Below w.heap.size w w') := by
  go_enter Tryz.func78, Tryz.ntmps78
  go_wp2_with (go_at_call 114; refine (cwithin_any _ _ _ _).mono ?_; rintro e w' ⟨rfl, rfl⟩)
  go_ret
  exact ⟨rfl, (Below.refl _ _).alloc (Nat.le_refl _) _⟩
theorem check_f40 (sl ge cl re qu ba fe : Int) (tx : ByteArray) (w : World) (hsl : winB sl 1 16384 = true) (hge : decide (ge < 1) = false) (kge : decide ((4294967295 : Int) < ge) = false) (hcl : winB cl 0 8 = true) (hre : winB re 0 8 = true) (hqu : winB qu 1 64 = false) : Calls Tryz.prog 78 #[.agg #[.int .i64 sl, .int .u64 ge, .int .i64 cl, .int .i64 re, .int .i64 qu, .int .i64 ba, .int .i64 fe, .string tx]] w (fun e w' => e = .returned (.int .i64 2) ∧ Below w.heap.size w w') := by
  go_enter Tryz.func78, Tryz.ntmps78
  go_wp2_with (go_at_call 114; refine (cwithin_any _ _ _ _).mono ?_; rintro e w' ⟨rfl, rfl⟩)
  go_ret
  exact ⟨rfl, (Below.refl _ _).alloc (Nat.le_refl _) _⟩
theorem check_f50 (sl ge cl re qu ba fe : Int) (tx : ByteArray) (w : World) (hsl : winB sl 1 16384 = true) (hge : decide (ge < 1) = false) (kge : decide ((4294967295 : Int) < ge) = false) (hcl : winB cl 0 8 = true) (hre : winB re 0 8 = true) (hqu : winB qu 1 64 = true) (hba : winB ba 1 16 = false) : Calls Tryz.prog 78 #[.agg #[.int .i64 sl, .int .u64 ge, .int .i64 cl, .int .i64 re, .int .i64 qu, .int .i64 ba, .int .i64 fe, .string tx]] w (fun e w' => e = .returned (.int .i64 2) ∧ Below w.heap.size w w') := by
  go_enter Tryz.func78, Tryz.ntmps78
  go_wp2_with (go_at_call 114; refine (cwithin_any _ _ _ _).mono ?_; rintro e w' ⟨rfl, rfl⟩)
  go_ret
  exact ⟨rfl, (Below.refl _ _).alloc (Nat.le_refl _) _⟩
theorem check_f60 (sl ge cl re qu ba fe : Int) (tx : ByteArray) (w : World) (hsl : winB sl 1 16384 = true) (hge : decide (ge < 1) = false) (kge : decide ((4294967295 : Int) < ge) = false) (hcl : winB cl 0 8 = true) (hre : winB re 0 8 = true) (hqu : winB qu 1 64 = true) (hba : winB ba 1 16 = true) (hfe : winB fe 1 64 = false) : Calls Tryz.prog 78 #[.agg #[.int .i64 sl, .int .u64 ge, .int .i64 cl, .int .i64 re, .int .i64 qu, .int .i64 ba, .int .i64 fe, .string tx]] w (fun e w' => e = .returned (.int .i64 2) ∧ Below w.heap.size w w') := by
  go_enter Tryz.func78, Tryz.ntmps78
  go_wp2_with (go_at_call 114; refine (cwithin_any _ _ _ _).mono ?_; rintro e w' ⟨rfl, rfl⟩)
  go_ret
  exact ⟨rfl, (Below.refl _ _).alloc (Nat.le_refl _) _⟩
theorem check_long (sl ge cl re qu ba fe : Int) (tx : ByteArray) (w : World) (hsl : winB sl 1 16384 = true) (hge : decide (ge < 1) = false) (kge : decide ((4294967295 : Int) < ge) = false) (hcl : winB cl 0 8 = true) (hre : winB re 0 8 = true) (hqu : winB qu 1 64 = true) (hba : winB ba 1 16 = true) (hfe : winB fe 1 64 = true) (hz : 65536 < tx.size) : Calls Tryz.prog 78 #[.agg #[.int .i64 sl, .int .u64 ge, .int .i64 cl, .int .i64 re, .int .i64 qu, .int .i64 ba, .int .i64 fe, .string tx]] w (fun e w' => e = .returned (.int .i64 5) ∧ Below w.heap.size w w') := by
  go_enter Tryz.func78, Tryz.ntmps78
  go_wp2_with (go_at_call 114; refine (cwithin_any _ _ _ _).mono ?_; rintro e w' ⟨rfl, rfl⟩)
  go_ret
  exact ⟨rfl, (Below.refl _ _).alloc (Nat.le_refl _) _⟩
theorem check_text_false (sl ge cl re qu ba fe : Int) (tx : ByteArray) (w : World) (hsl : winB sl 1 16384 = true) (hge : decide (ge < 1) = false) (kge : decide ((4294967295 : Int) < ge) = false) (hcl : winB cl 0 8 = true) (hre : winB re 0 8 = true) (hqu : winB qu 1 64 = true) (hba : winB ba 1 16 = true) (hfe : winB fe 1 64 = true) (hz : tx.size ≤ 65536) (hv : vdB (bs tx) = false) : Calls Tryz.prog 78 #[.agg #[.int .i64 sl, .int .u64 ge, .int .i64 cl, .int .i64 re, .int .i64 qu, .int .i64 ba, .int .i64 fe, .string tx]] w (fun e w' => e = .returned (.int .i64 11) ∧ Below w.heap.size w w') := by
  go_enter Tryz.func78, Tryz.ntmps78
  go_wp2_with (go_at_call 114; refine (cwithin_any _ _ _ _).mono ?_; rintro e w' ⟨rfl, rfl⟩)
  refine (valid_any tx _ (by omega)).mono ?_
  rintro e w1 ⟨rfl, hb⟩
  have hbel : Below w.heap.size w w1 := ((Below.refl _ _).alloc (Nat.le_refl _) _).trans (hb.mono (by simp))
  go_wp2_with fail
  go_ret
  exact ⟨rfl, hbel⟩
theorem check_text_true (sl ge cl re qu ba fe : Int) (tx : ByteArray) (w : World) (hsl : winB sl 1 16384 = true) (hge : decide (ge < 1) = false) (kge : decide ((4294967295 : Int) < ge) = false) (hcl : winB cl 0 8 = true) (hre : winB re 0 8 = true) (hqu : winB qu 1 64 = true) (hba : winB ba 1 16 = true) (hfe : winB fe 1 64 = true) (hz : tx.size ≤ 65536) (hv : vdB (bs tx) = true) : Calls Tryz.prog 78 #[.agg #[.int .i64 sl, .int .u64 ge, .int .i64 cl, .int .i64 re, .int .i64 qu, .int .i64 ba, .int .i64 fe, .string tx]] w (fun e w' => e = .returned (.int .i64 0) ∧ Below w.heap.size w w') := by
  go_enter Tryz.func78, Tryz.ntmps78
  go_wp2_with (go_at_call 114; refine (cwithin_any _ _ _ _).mono ?_; rintro e w' ⟨rfl, rfl⟩)
  refine (valid_any tx _ (by omega)).mono ?_
  rintro e w1 ⟨rfl, hb⟩
  have hbel : Below w.heap.size w w1 := ((Below.refl _ _).alloc (Nat.le_refl _) _).trans (hb.mono (by simp))
  go_wp2_with fail
  go_ret
  exact ⟨rfl, hbel⟩
theorem check_all (c : Cf) (w : World) (hm : c.tx.size ≤ 1000000) : Calls Tryz.prog 78 #[c.v] w fun e w' => e = .returned (.int .i64 (ckE c)) ∧ Below w.heap.size w w' := by
  obtain ⟨sl, ge, cl, re, qu, ba, fe, tx⟩ := c
  simp only [Cf.v]
  by_cases csl : ¬ (1 ≤ sl ∧ sl ≤ 16384)
  · have hv : ckE ⟨sl, ge, cl, re, qu, ba, fe, tx⟩ = 2 := by unfold ckE Cf.nums; rw [if_pos]; simp only; omega
    rw [hv]
    exact check_f00 sl ge cl re qu ba fe tx w (by simp [winB]; omega)
  have csl := Decidable.not_not.1 csl
  have hsl : winB sl 1 16384 = true := by simp [winB]; omega
  by_cases cge : ¬ (1 ≤ ge ∧ ge ≤ 4294967295)
  · have hv : ckE ⟨sl, ge, cl, re, qu, ba, fe, tx⟩ = 2 := by unfold ckE Cf.nums; rw [if_pos]; simp only; omega
    rw [hv]
    by_cases d : ge < 1
    · exact check_f10 sl ge cl re qu ba fe tx w hsl (by simpa using d)
    · exact check_f11 sl ge cl re qu ba fe tx w hsl (by simpa using d) (by simp; omega)
  have cge := Decidable.not_not.1 cge
  have hge : decide (ge < 1) = false := by simp; omega
  have kge : decide ((4294967295 : Int) < ge) = false := by simp; omega
  by_cases ccl : ¬ (0 ≤ cl ∧ cl ≤ 8)
  · have hv : ckE ⟨sl, ge, cl, re, qu, ba, fe, tx⟩ = 2 := by unfold ckE Cf.nums; rw [if_pos]; simp only; omega
    rw [hv]
    exact check_f20 sl ge cl re qu ba fe tx w hsl hge kge (by simp [winB]; omega)
  have ccl := Decidable.not_not.1 ccl
  have hcl : winB cl 0 8 = true := by simp [winB]; omega
  by_cases cre : ¬ (0 ≤ re ∧ re ≤ 8)
  · have hv : ckE ⟨sl, ge, cl, re, qu, ba, fe, tx⟩ = 2 := by unfold ckE Cf.nums; rw [if_pos]; simp only; omega
    rw [hv]
    exact check_f30 sl ge cl re qu ba fe tx w hsl hge kge hcl (by simp [winB]; omega)
  have cre := Decidable.not_not.1 cre
  have hre : winB re 0 8 = true := by simp [winB]; omega
  by_cases cqu : ¬ (1 ≤ qu ∧ qu ≤ 64)
  · have hv : ckE ⟨sl, ge, cl, re, qu, ba, fe, tx⟩ = 2 := by unfold ckE Cf.nums; rw [if_pos]; simp only; omega
    rw [hv]
    exact check_f40 sl ge cl re qu ba fe tx w hsl hge kge hcl hre (by simp [winB]; omega)
  have cqu := Decidable.not_not.1 cqu
  have hqu : winB qu 1 64 = true := by simp [winB]; omega
  by_cases cba : ¬ (1 ≤ ba ∧ ba ≤ 16)
  · have hv : ckE ⟨sl, ge, cl, re, qu, ba, fe, tx⟩ = 2 := by unfold ckE Cf.nums; rw [if_pos]; simp only; omega
    rw [hv]
    exact check_f50 sl ge cl re qu ba fe tx w hsl hge kge hcl hre hqu (by simp [winB]; omega)
  have cba := Decidable.not_not.1 cba
  have hba : winB ba 1 16 = true := by simp [winB]; omega
  by_cases cfe : ¬ (1 ≤ fe ∧ fe ≤ 64)
  · have hv : ckE ⟨sl, ge, cl, re, qu, ba, fe, tx⟩ = 2 := by unfold ckE Cf.nums; rw [if_pos]; simp only; omega
    rw [hv]
    exact check_f60 sl ge cl re qu ba fe tx w hsl hge kge hcl hre hqu hba (by simp [winB]; omega)
  have cfe := Decidable.not_not.1 cfe
  have hfe : winB fe 1 64 = true := by simp [winB]; omega
  have hn : Cf.nums ⟨sl, ge, cl, re, qu, ba, fe, tx⟩ := ⟨csl, cge, ccl, cre, cqu, cba, cfe⟩
  by_cases hz : 65536 < tx.size
  · have hv : ckE ⟨sl, ge, cl, re, qu, ba, fe, tx⟩ = 5 := by unfold ckE; rw [if_neg (fun h => h hn), if_pos hz]
    rw [hv]
    exact check_long sl ge cl re qu ba fe tx w hsl hge kge hcl hre hqu hba hfe hz
  · have hv : ckE ⟨sl, ge, cl, re, qu, ba, fe, tx⟩ = (if vdB (bs tx) = false then 11 else 0) := by unfold ckE; rw [if_neg (fun h => h hn), if_neg hz]
    rw [hv]
    cases hv2 : vdB (bs tx) with
    | false => exact check_text_false sl ge cl re qu ba fe tx w hsl hge kge hcl hre hqu hba hfe (by omega) hv2
    | true => exact check_text_true sl ge cl re qu ba fe tx w hsl hge kge hcl hre hqu hba hfe (by omega) hv2
end Go.Proofs.YtjcdknhejcbpiaaGreat
namespace Go.Proofs.YtjcdknhejcbpiaaGreat
open Go.RowKit
set_option linter.unusedVariables false
set_option linter.unusedSimpArgs false
theorem bcell {W w1 : World} (hb : Below W.heap.size W w1) : (∀ b o, b < W.heap.size → w1.cell? ⟨b, o, none⟩ = W.cell? ⟨b, o, none⟩) ∧ (∀ b o, b < W.heap.size → w1.frozen? ⟨b, o, none⟩ = W.frozen? ⟨b, o, none⟩) :=
  ⟨fun b o h => hb.cell (p := ⟨b, o, none⟩) h, fun b o h => hb.frozen (p := ⟨b, o, none⟩) h⟩
def layV (sl re fe ce : Int) : Value := .agg #[.int .i64 0, .int .i64 1, .int .i64 2, .int .i64 3, .int .i64 4, .int .i64 5, .int .i64 sl, .int .i64 re, .int .i64 fe, .int .i64 ce]
def layZ : Value := .agg #[.int .i64 0, .int .i64 0, .int .i64 0, .int .i64 0, .int .i64 0, .int .i64 0, .int .i64 0, .int .i64 0, .int .i64 0, .int .i64 0]
def Cf.l6 (c : Cf) : Int := 5 + c.qu
def Cf.l7 (c : Cf) : Int := 5 + c.qu + c.cl * c.re
def Cf.l8 (c : Cf) : Int := 5 + c.qu + c.cl * c.re + c.cl
def Cf.l9 (c : Cf) : Int := 5 + c.qu + c.cl * c.re + c.cl + c.cl * (4 + c.fe)
theorem ck_nums {c : Cf} (h : ckE c = 0) : c.nums := by
  unfold ckE at h
  split at h
  · cases h
  · rename_i hn; exact Classical.not_not.1 hn
theorem mul_bd {a b m n : Int} (h1 : 0 ≤ a) (h2 : a ≤ m) (h3 : 0 ≤ b) (h4 : b ≤ n) : 0 ≤ a * b ∧ a * b ≤ m * n := by
  refine ⟨Int.mul_nonneg h1 h3, ?_⟩
  exact Int.mul_le_mul h2 h4 h3 (by omega)
set_option maxHeartbeats 400000 in
theorem place_bad (c : Cf) (w : World) (hm : c.tx.size ≤ 1000000) (h : ckE c ≠ 0) : Calls Tryz.prog 44 #[c.v] w fun e w' => e = .returned (.tuple #[layZ, .int .i64 (ckE c)]) ∧ Below w.heap.size w w' := by
  have hc := check_all c
  obtain ⟨sl, ge, cl, re, qu, ba, fe, tx⟩ := c
  simp only [Cf.v] at hc ⊢
  generalize ckE ⟨sl, ge, cl, re, qu, ba, fe, tx⟩ = k at h hc ⊢
  have hb : (k != 0) = true := by rw [bne_iff_ne]; exact h
  have HC := hid hc
  clear hc
  go_enter Tryz.func44, Tryz.ntmps44
  go_wp2_with fail
  refine (HC.out _ hm).mono ?_
  rintro e w1 ⟨rfl, hbel⟩
  obtain ⟨hcell, hfr⟩ := bcell hbel
  have hsz := hbel.size
  simp only [World.size_alloc] at hsz
  go_wp2_with fail
  refine bodyPost_ret (v := .tuple #[layZ, .int .i64 k]) ?_ rfl ⟨rfl, ?_⟩
  · simp [results, Tryz.results44, go_sem, layZ, hcell, hfr]
  · iterate 10 refine Below.setCell ?_ (by simp) _
    exact (((Below.refl _ _).alloc (Nat.le_refl _) _).alloc (by simp) _).trans (hbel.mono (by simp; omega))
set_option maxHeartbeats 400000 in
theorem place_ok (c : Cf) (w : World) (hm : c.tx.size ≤ 1000000) (h : ckE c = 0) : Calls Tryz.prog 44 #[c.v] w fun e w' => e = .returned (.tuple #[layV c.l6 c.l7 c.l8 c.l9, .int .i64 0]) ∧ Below w.heap.size w w' := by
  have hc := check_all c
  obtain ⟨-, -, ⟨c1, c2⟩, ⟨r1, r2⟩, ⟨q1, q2⟩, -, ⟨f1, f2⟩⟩ := ck_nums h
  rw [h] at hc
  clear h
  obtain ⟨sl, ge, cl, re, qu, ba, fe, tx⟩ := c
  simp only [Cf.v, Cf.l6, Cf.l7, Cf.l8, Cf.l9] at hc c1 c2 r1 r2 q1 q2 f1 f2 ⊢
  obtain ⟨m1, m2⟩ := mul_bd c1 c2 r1 r2
  obtain ⟨m3, m4⟩ := mul_bd c1 c2 (by omega : 0 ≤ 4 + fe) (by omega : 4 + fe ≤ 68)
  have HC := hid hc
  clear hc
  go_enter Tryz.func44, Tryz.ntmps44
  go_wp2_with fail
  refine (HC.out _ hm).mono ?_
  rintro e w1 ⟨rfl, hbel⟩
  obtain ⟨hcell, hfr⟩ := bcell hbel
  have hsz := hbel.size
  simp only [World.size_alloc] at hsz
  have e1 : w1.cell? ⟨w.heap.size, 4, none⟩ = some (.int .i64 qu) := by rw [hcell _ _ (by simp; omega)]; simp
  have e2 : w1.cell? ⟨w.heap.size, 2, none⟩ = some (.int .i64 cl) := by rw [hcell _ _ (by simp; omega)]; simp
  have e3 : w1.cell? ⟨w.heap.size, 3, none⟩ = some (.int .i64 re) := by rw [hcell _ _ (by simp; omega)]; simp
  have e4 : w1.cell? ⟨w.heap.size, 6, none⟩ = some (.int .i64 fe) := by rw [hcell _ _ (by simp; omega)]; simp
  have hlt : w.heap.size < w1.heap.size := by omega
  have hlt1 : w.heap.size + 1 < w1.heap.size := by omega
  go_wp2_with fail
  refine bodyPost_ret (v := .tuple #[layV (5 + qu) (5 + qu + cl * re) (5 + qu + cl * re + cl) (5 + qu + cl * re + cl + cl * (4 + fe)), .int .i64 0]) ?_ rfl ⟨rfl, ?_⟩
  · simp [results, Tryz.results44, go_sem, layV, hcell, hfr, hlt1]
  · refine Below.alloc ?_ (by simp; omega) _
    iterate 10 refine Below.setCell ?_ (by simp) _
    exact (((Below.refl _ _).alloc (Nat.le_refl _) _).alloc (by simp) _).trans (hbel.mono (by simp; omega))
end Go.Proofs.YtjcdknhejcbpiaaGreat
namespace Go.Proofs.YtjcdknhejcbpiaaGreat
open Go.RowKit
set_option linter.unusedVariables false
set_option linter.unusedSimpArgs false
set_option linter.unusedSectionVars false
/-- A store in memory. -/
structure StC (w : World) (sb : Nat) (hd : List Value) (a b c d e f : Value) (cs : Array Value) : Prop where
  blk : Blk w sb 125 cs
  h : ∀ k, k < 18 → cs[k]? = hd[k]?
  c18 : cs[18]? = some a
  c19 : cs[19]? = some b
  c20 : cs[20]? = some c
  c21 : cs[21]? = some d
  c22 : cs[22]? = some e
  c23 : cs[23]? = some f
  z : ∀ k, 24 ≤ k → cs[k]? = (Tryz.zeroCells125)[k]?
section
variable {w w' : World} {sb : Nat} {hd : List Value} {a b c d e f : Value} {cs : Array Value}
theorem StC.keep (h : StC w sb hd a b c d e f cs) {fp : Nat → Prop} (ch : Ch fp w w') (hn : ¬ fp sb) : StC w' sb hd a b c d e f cs := { h with blk := ch.blk h.blk hn }
theorem StC.drewN (h : StC w sb hd a b c d e f cs) (m : Nat) : StC (w.drewN m) sb hd a b c d e f cs := { h with blk := h.blk.drewN m }
theorem StC.put18 (h : StC w sb hd a b c d e f cs) (x : Value) : StC (w.setCell ⟨sb, 18, none⟩ x) sb hd x b c d e f (cs.setIfInBounds 18 x) :=
  ⟨h.blk.put 18 x, fun k hk => by rw [Array.getElem?_setIfInBounds, if_neg (by omega)]; exact h.h k hk,
    by rw [Array.getElem?_setIfInBounds, if_pos rfl, if_pos (Array.getElem?_eq_some_iff.1 h.c18).1],
    by rw [Array.getElem?_setIfInBounds, if_neg (by decide)]; exact h.c19,
    by rw [Array.getElem?_setIfInBounds, if_neg (by decide)]; exact h.c20,
    by rw [Array.getElem?_setIfInBounds, if_neg (by decide)]; exact h.c21,
    by rw [Array.getElem?_setIfInBounds, if_neg (by decide)]; exact h.c22,
    by rw [Array.getElem?_setIfInBounds, if_neg (by decide)]; exact h.c23,
    fun k hk => by rw [Array.getElem?_setIfInBounds, if_neg (by omega)]; exact h.z k hk⟩
theorem StC.put19 (h : StC w sb hd a b c d e f cs) (x : Value) : StC (w.setCell ⟨sb, 19, none⟩ x) sb hd a x c d e f (cs.setIfInBounds 19 x) :=
  ⟨h.blk.put 19 x, fun k hk => by rw [Array.getElem?_setIfInBounds, if_neg (by omega)]; exact h.h k hk,
    by rw [Array.getElem?_setIfInBounds, if_neg (by decide)]; exact h.c18,
    by rw [Array.getElem?_setIfInBounds, if_pos rfl, if_pos (Array.getElem?_eq_some_iff.1 h.c19).1],
    by rw [Array.getElem?_setIfInBounds, if_neg (by decide)]; exact h.c20,
    by rw [Array.getElem?_setIfInBounds, if_neg (by decide)]; exact h.c21,
    by rw [Array.getElem?_setIfInBounds, if_neg (by decide)]; exact h.c22,
    by rw [Array.getElem?_setIfInBounds, if_neg (by decide)]; exact h.c23,
    fun k hk => by rw [Array.getElem?_setIfInBounds, if_neg (by omega)]; exact h.z k hk⟩
theorem StC.put20 (h : StC w sb hd a b c d e f cs) (x : Value) : StC (w.setCell ⟨sb, 20, none⟩ x) sb hd a b x d e f (cs.setIfInBounds 20 x) :=
  ⟨h.blk.put 20 x, fun k hk => by rw [Array.getElem?_setIfInBounds, if_neg (by omega)]; exact h.h k hk,
    by rw [Array.getElem?_setIfInBounds, if_neg (by decide)]; exact h.c18,
    by rw [Array.getElem?_setIfInBounds, if_neg (by decide)]; exact h.c19,
    by rw [Array.getElem?_setIfInBounds, if_pos rfl, if_pos (Array.getElem?_eq_some_iff.1 h.c20).1],
    by rw [Array.getElem?_setIfInBounds, if_neg (by decide)]; exact h.c21,
    by rw [Array.getElem?_setIfInBounds, if_neg (by decide)]; exact h.c22,
    by rw [Array.getElem?_setIfInBounds, if_neg (by decide)]; exact h.c23,
    fun k hk => by rw [Array.getElem?_setIfInBounds, if_neg (by omega)]; exact h.z k hk⟩
theorem StC.put21 (h : StC w sb hd a b c d e f cs) (x : Value) : StC (w.setCell ⟨sb, 21, none⟩ x) sb hd a b c x e f (cs.setIfInBounds 21 x) :=
  ⟨h.blk.put 21 x, fun k hk => by rw [Array.getElem?_setIfInBounds, if_neg (by omega)]; exact h.h k hk,
    by rw [Array.getElem?_setIfInBounds, if_neg (by decide)]; exact h.c18,
    by rw [Array.getElem?_setIfInBounds, if_neg (by decide)]; exact h.c19,
    by rw [Array.getElem?_setIfInBounds, if_neg (by decide)]; exact h.c20,
    by rw [Array.getElem?_setIfInBounds, if_pos rfl, if_pos (Array.getElem?_eq_some_iff.1 h.c21).1],
    by rw [Array.getElem?_setIfInBounds, if_neg (by decide)]; exact h.c22,
    by rw [Array.getElem?_setIfInBounds, if_neg (by decide)]; exact h.c23,
    fun k hk => by rw [Array.getElem?_setIfInBounds, if_neg (by omega)]; exact h.z k hk⟩
theorem StC.put23 (h : StC w sb hd a b c d e f cs) (x : Value) : StC (w.setCell ⟨sb, 23, none⟩ x) sb hd a b c d e x (cs.setIfInBounds 23 x) :=
  ⟨h.blk.put 23 x, fun k hk => by rw [Array.getElem?_setIfInBounds, if_neg (by omega)]; exact h.h k hk,
    by rw [Array.getElem?_setIfInBounds, if_neg (by decide)]; exact h.c18,
    by rw [Array.getElem?_setIfInBounds, if_neg (by decide)]; exact h.c19,
    by rw [Array.getElem?_setIfInBounds, if_neg (by decide)]; exact h.c20,
    by rw [Array.getElem?_setIfInBounds, if_neg (by decide)]; exact h.c21,
    by rw [Array.getElem?_setIfInBounds, if_neg (by decide)]; exact h.c22,
    by rw [Array.getElem?_setIfInBounds, if_pos rfl, if_pos (Array.getElem?_eq_some_iff.1 h.c23).1],
    fun k hk => by rw [Array.getElem?_setIfInBounds, if_neg (by omega)]; exact h.z k hk⟩
end
theorem lk_rep (m c : Nat) : lk (List.replicate m (0 : Int)) c = 0 := by
  simp only [lk, List.getD_eq_getElem?_getD, List.getElem?_replicate]
  split <;> rfl
theorem ArN.keep {w w' : World} {ab n : Nat} {g : Int} {lb mb : Nat} (h : ArN w ab n g lb mb) (c : Ch (fun _ => False) w w') : ArN w' ab n g lb mb := by
  obtain ⟨g0, g1, g2, hf⟩ := h.f
  exact ⟨c.blk h.a id, (c.block mb (Array.getElem?_eq_some_iff.1 h.m).1 id).trans h.m, ⟨g0, g1, g2, hf.keep c (fun _ _ => id)⟩⟩
theorem ArN.far {w w' : World} {ab n : Nat} {g : Int} {lb mb sb : Nat} {cs : Array Value} (h : ArN w ab n g lb mb) (hs : Blk w sb 125 cs) (c : Ch (fun j => j = sb) w w') : ArN w' ab n g lb mb := by
  obtain ⟨g0, g1, g2, hf⟩ := h.f
  refine ⟨c.blk h.a (fun e => Blk.ne h.a hs (by decide) e), (c.block mb (Array.getElem?_eq_some_iff.1 h.m).1 (fun e => ?_)).trans h.m, ⟨g0, g1, g2, hf.keep c (fun k hk e => ?_)⟩⟩
  · have h1 := h.m
    rw [e] at h1
    have h2 : w.heap[sb]? = some (.cells cs 125 (0, 0)) := hs
    rw [h2] at h1
    cases h1
  · rcases hk with rfl | rfl | rfl | rfl
    · exact Blk.ne hf.l hs (by decide) e
    · exact Blk.ne hf.b0 hs (by decide) e
    · exact Blk.ne hf.b1 hs (by decide) e
    · exact Blk.ne hf.b2 hs (by decide) e
theorem below_ch {w w' : World} (h : Below w.heap.size w w') : Ch (fun _ => False) w w' := ⟨h.os, h.tape, h.output, h.size, fun k hk _ => h.block k hk⟩
noncomputable def stArr (v0 v1 v2 v3 v4 v5 v6 v7 v8 v9 v10 v11 v12 v13 v14 v15 v16 v17 : Value) : Array Value := (((((((((((((((((((Tryz.zeroCells125).setIfInBounds 0 (v0)).setIfInBounds 1 (v1)).setIfInBounds 2 (v2)).setIfInBounds 3 (v3)).setIfInBounds 4 (v4)).setIfInBounds 5 (v5)).setIfInBounds 6 (v6)).setIfInBounds 7 (v7)).setIfInBounds 8 (v8)).setIfInBounds 9 (v9)).setIfInBounds 10 (v10)).setIfInBounds 11 (v11)).setIfInBounds 12 (v12)).setIfInBounds 13 (v13)).setIfInBounds 14 (v14)).setIfInBounds 15 (v15)).setIfInBounds 16 (v16)).setIfInBounds 17 (v17))
theorem st_size : (Tryz.zeroCells125).size = 184 := by kernel_rfl
theorem st_z18 : (Tryz.zeroCells125)[18]? = some (.pointer none) := by kernel_rfl
theorem st_z19 : (Tryz.zeroCells125)[19]? = some (.pointer none) := by kernel_rfl
theorem st_z20 : (Tryz.zeroCells125)[20]? = some (.pointer none) := by kernel_rfl
theorem st_z21 : (Tryz.zeroCells125)[21]? = some (.pointer none) := by kernel_rfl
theorem st_z22 : (Tryz.zeroCells125)[22]? = some (.slice none 0 0) := by kernel_rfl
theorem st_z23 : (Tryz.zeroCells125)[23]? = some (.slice none 0 0) := by kernel_rfl
set_option maxHeartbeats 4000000 in
theorem st_hd (v0 v1 v2 v3 v4 v5 v6 v7 v8 v9 v10 v11 v12 v13 v14 v15 v16 v17 : Value) : ∀ k, k < 18 → (stArr v0 v1 v2 v3 v4 v5 v6 v7 v8 v9 v10 v11 v12 v13 v14 v15 v16 v17)[k]? = [v0, v1, v2, v3, v4, v5, v6, v7, v8, v9, v10, v11, v12, v13, v14, v15, v16, v17][k]? := by
  intro k hk
  match k, hk with
  | 0, _ => simp [stArr, Array.getElem?_setIfInBounds, st_size]
  | 1, _ => simp [stArr, Array.getElem?_setIfInBounds, st_size]
  | 2, _ => simp [stArr, Array.getElem?_setIfInBounds, st_size]
  | 3, _ => simp [stArr, Array.getElem?_setIfInBounds, st_size]
  | 4, _ => simp [stArr, Array.getElem?_setIfInBounds, st_size]
  | 5, _ => simp [stArr, Array.getElem?_setIfInBounds, st_size]
  | 6, _ => simp [stArr, Array.getElem?_setIfInBounds, st_size]
  | 7, _ => simp [stArr, Array.getElem?_setIfInBounds, st_size]
  | 8, _ => simp [stArr, Array.getElem?_setIfInBounds, st_size]
  | 9, _ => simp [stArr, Array.getElem?_setIfInBounds, st_size]
  | 10, _ => simp [stArr, Array.getElem?_setIfInBounds, st_size]
  | 11, _ => simp [stArr, Array.getElem?_setIfInBounds, st_size]
  | 12, _ => simp [stArr, Array.getElem?_setIfInBounds, st_size]
  | 13, _ => simp [stArr, Array.getElem?_setIfInBounds, st_size]
  | 14, _ => simp [stArr, Array.getElem?_setIfInBounds, st_size]
  | 15, _ => simp [stArr, Array.getElem?_setIfInBounds, st_size]
  | 16, _ => simp [stArr, Array.getElem?_setIfInBounds, st_size]
  | 17, _ => simp [stArr, Array.getElem?_setIfInBounds, st_size]
  | m + 18, h => exact absurd h (by omega)
theorem st_new (sb : Nat) (w : World) (v0 v1 v2 v3 v4 v5 v6 v7 v8 v9 v10 v11 v12 v13 v14 v15 v16 v17 : Value) (h : Blk w sb 125 (stArr v0 v1 v2 v3 v4 v5 v6 v7 v8 v9 v10 v11 v12 v13 v14 v15 v16 v17)) : StC w sb [v0, v1, v2, v3, v4, v5, v6, v7, v8, v9, v10, v11, v12, v13, v14, v15, v16, v17] (.pointer none) (.pointer none) (.pointer none) (.pointer none) (.slice none 0 0) (.slice none 0 0) (stArr v0 v1 v2 v3 v4 v5 v6 v7 v8 v9 v10 v11 v12 v13 v14 v15 v16 v17) :=
  ⟨h, st_hd v0 v1 v2 v3 v4 v5 v6 v7 v8 v9 v10 v11 v12 v13 v14 v15 v16 v17, by rw [← st_z18]; simp [stArr, Array.getElem?_setIfInBounds], by rw [← st_z19]; simp [stArr, Array.getElem?_setIfInBounds], by rw [← st_z20]; simp [stArr, Array.getElem?_setIfInBounds], by rw [← st_z21]; simp [stArr, Array.getElem?_setIfInBounds], by rw [← st_z22]; simp [stArr, Array.getElem?_setIfInBounds], by rw [← st_z23]; simp [stArr, Array.getElem?_setIfInBounds], fun k hk => by
    unfold stArr
    iterate 18 rw [Array.getElem?_setIfInBounds, if_neg (by omega)]⟩
end Go.Proofs.YtjcdknhejcbpiaaGreat
namespace Go.Proofs.YtjcdknhejcbpiaaGreat
open Go.RowKit
set_option linter.unusedVariables false
set_option linter.unusedSimpArgs false
set_option linter.unusedSectionVars false
set_option maxRecDepth 100000 in
set_option maxHeartbeats 1000000 in
theorem revision_any (B sb : Nat) (cs : Array Value) (A : Option Addr) (cap N p : Nat) (xs : List Value) (x : Rv) (am ad : Option Addr) (n1 c1 n2 c2 : Nat) (ms : List Mk) (ds : List Pc) (w : World)
    (hS : Blk w sb 125 cs) (h23 : cs[23]? = some (.slice A N cap)) (hown : w.ownsRow B 104 8 (.slice A N cap) N xs) (hp : p < N) (hN : N < 1000) (hx : ∀ (j : Nat) (v : Value), (rvCells x (.slice am n1 c1) (.slice ad n2 c2))[j]? = some v → xs[p * 8 + j]? = some v)
    (hm : InMk w am n1 ms) (hd : InPc w ad n2 ds) (zm : am = none → c1 = 0) (zd : ad = none → c2 = 0) (h1 : n1 < 1000) (h2 : n2 < 1000) :
    Calls Tryz.prog 37 #[.pointer (some ⟨sb, 0, none⟩), .int .i64 p] w fun e w' => ∃ mv dv, e = .returned (.tuple #[.agg (rvA x mv dv), .int .i64 0]) ∧ w'.ownsRow w.heap.size 160 3 mv n1 (mkCells ms) ∧ w'.ownsRow w.heap.size 217 3 dv n2 (pcCells ds) ∧ Ch (fun _ => False) w w' := by
  obtain ⟨g, cap', hv, hcap, hcm, hBg, hgl⟩ := own_form hown (by omega)
  injection hv with hA _ hc'
  subst hA hc'
  have d1 : decide ((p : Int) < 0) = false := decide_eq_false (by omega)
  have d2 : decide (N ≤ p) = false := decide_eq_false (by omega)
  have d2' : decide ((N : Int) ≤ (p : Int)) = false := decide_eq_false (by omega)
  have d3 : decide (p < N) = true := decide_eq_true hp
  have d3' : decide ((p : Int) < (N : Int)) = true := decide_eq_true (by omega)
  have kc : ∀ (j : Nat) (v : Value), (rvCells x (.slice am n1 c1) (.slice ad n2 c2))[j]? = some v → w.cell? ⟨g, p * 8 + j, none⟩ = some v := fun j v hj => by
    have := hown.cells (g := g) rfl (p * 8 + j) v (hx j v hj)
    rw [addr_add0] at this
    exact this
  have HS := hid hS
  have H := hid hown
  have HM := hid hm
  have HD := hid hd
  have HK := hid kc
  have H23 := hid h23
  have hsl := hS.lt
  have k23 : w.cell? ⟨sb, 23, none⟩ = some (.slice (some ⟨g, 0, none⟩) N cap) := (hS.cell 23).trans h23
  have b0 : w.cell? ⟨g, p * 8, none⟩ = some (.int .i64 x.num) := kc 0 _ rfl
  have b1 : w.cell? ⟨g, p * 8 + 1, none⟩ = some (.int .u64 x.at') := kc 1 _ rfl
  have b2 : w.cell? ⟨g, p * 8 + 2, none⟩ = some (.int .i64 x.h) := kc 2 _ rfl
  have b3 : w.cell? ⟨g, p * 8 + 3, none⟩ = some (.int .i64 x.b) := kc 3 _ rfl
  have b4 : w.cell? ⟨g, p * 8 + 4, none⟩ = some (.int .i64 x.r) := kc 4 _ rfl
  have b5 : w.cell? ⟨g, p * 8 + 5, none⟩ = some (.int .i64 x.l) := kc 5 _ rfl
  have b6 : w.cell? ⟨g, p * 8 + 6, none⟩ = some (.slice am n1 c1) := kc 6 _ rfl
  have b7 : w.cell? ⟨g, p * 8 + 7, none⟩ = some (.slice ad n2 c2) := kc 7 _ rfl
  clear hS hown hm hd kc h23 hx HK
  go_enter Tryz.func37, Tryz.ntmps37
  go_wp2_with fail
  refine calls_world fun W1 hW1 => ?_
  have cW : Ch (fun _ => False) w W1 := by rw [hW1]; exact (Ch.refl _ w).alloc _
  have bR : Blk W1 w.heap.size 104 #[.int .i64 0, .int .u64 0, .int .i64 0, .int .i64 0, .int .i64 0, .int .i64 0, .slice none 0 0, .slice none 0 0] := by rw [hW1]; exact Blk.new w _ _
  have HW := hid cW
  have HB := hid bR
  clear hW1 cW bR k23 b0 b1 b2 b3 b4 b5 b6 b7
  refine (copied_any x am ad n1 c1 n2 c2 ms ds W1 (HM.out.keep HW.out (fun _ _ _ _ => id)) (HD.out.keep HW.out (fun _ _ _ _ => id)) zm zd h1 h2).mono ?_
  rintro e w4 ⟨mv, dv, rfl, ho1, ho2, hc⟩
  obtain ⟨ma, mc, hmv, _⟩ := own_slice ho1
  obtain ⟨da, dc, hdv, _⟩ := own_slice ho2
  subst hmv hdv
  have HO1 := hid (own_mono ho1 HW.out.size)
  have HO2 := hid (own_mono ho2 HW.out.size)
  have HC4 := hid (HW.out.trans hc (fun _ _ h => h))
  have R4 := hc.blk HB.out id
  have r0 : w4.cell? ⟨w.heap.size, 0, none⟩ = some (.int .i64 0) := R4.cell 0
  have r1 : w4.cell? ⟨w.heap.size, 1, none⟩ = some (.int .u64 0) := R4.cell 1
  have r2 : w4.cell? ⟨w.heap.size, 2, none⟩ = some (.int .i64 0) := R4.cell 2
  have r3 : w4.cell? ⟨w.heap.size, 3, none⟩ = some (.int .i64 0) := R4.cell 3
  have r4 : w4.cell? ⟨w.heap.size, 4, none⟩ = some (.int .i64 0) := R4.cell 4
  have r5 : w4.cell? ⟨w.heap.size, 5, none⟩ = some (.int .i64 0) := R4.cell 5
  have r6 : w4.cell? ⟨w.heap.size, 6, none⟩ = some (.slice none 0 0) := R4.cell 6
  have r7 : w4.cell? ⟨w.heap.size, 7, none⟩ = some (.slice none 0 0) := R4.cell 7
  have s0 := R4.free 0
  have s1 := R4.free 1
  have s2 := R4.free 2
  have s3 := R4.free 3
  have s4 := R4.free 4
  have s5 := R4.free 5
  have s6 := R4.free 6
  have s7 := R4.free 7
  clear ho1 ho2 hc
  simp only [rvA]
  go_wp2_with fail
  refine at_world fun W7 hW7 => ?_
  have R7 : Blk W7 w.heap.size 104 #[.int .i64 x.num, .int .u64 x.at', .int .i64 x.h, .int .i64 x.b, .int .i64 x.r, .int .i64 x.l, .slice ma n1 mc, .slice da n2 dc] := by
    rw [hW7]; exact (((((((R4.put 0 _).put 1 _).put 2 _).put 3 _).put 4 _).put 5 _).put 6 _).put 7 _
  have c7 : Ch (fun k => k = w.heap.size) w4 W7 := by
    rw [hW7]; exact ((((((((Ch.refl (fun k => k = w.heap.size) w4).set (fun _ => rfl) _).set (fun _ => rfl) _).set (fun _ => rfl) _).set (fun _ => rfl) _).set (fun _ => rfl) _).set (fun _ => rfl) _).set (fun _ => rfl) _).set (fun _ => rfl) _
  have o1 := R4.own HO1.out (by decide)
  have o2 := R4.own HO2.out (by decide)
  have t0 : W7.cell? ⟨w.heap.size, 0, none⟩ = some (.int .i64 x.num) := R7.cell 0
  have t1 : W7.cell? ⟨w.heap.size, 1, none⟩ = some (.int .u64 x.at') := R7.cell 1
  have t2 : W7.cell? ⟨w.heap.size, 2, none⟩ = some (.int .i64 x.h) := R7.cell 2
  have t3 : W7.cell? ⟨w.heap.size, 3, none⟩ = some (.int .i64 x.b) := R7.cell 3
  have t4 : W7.cell? ⟨w.heap.size, 4, none⟩ = some (.int .i64 x.r) := R7.cell 4
  have t5 : W7.cell? ⟨w.heap.size, 5, none⟩ = some (.int .i64 x.l) := R7.cell 5
  have t6 : W7.cell? ⟨w.heap.size, 6, none⟩ = some (.slice ma n1 mc) := R7.cell 6
  have t7 : W7.cell? ⟨w.heap.size, 7, none⟩ = some (.slice da n2 dc) := R7.cell 7
  refine bodyPost_ret (v := .tuple #[.agg (rvA x (.slice ma n1 mc) (.slice da n2 dc)), .int .i64 0]) ?_ rfl ⟨_, _, rfl, c7.own HO1.out (fun k hk e => o1 (by rw [hk, e])), c7.own HO2.out (fun k hk e => o2 (by rw [hk, e])), HC4.out.trans c7 (fun i hi e => absurd hi (by omega))⟩
  clear hW7 c7 o1 o2
  simp [results, Tryz.results37, go_sem, rvA, t0, t1, t2, t3, t4, t5, t6, t7]
end Go.Proofs.YtjcdknhejcbpiaaGreat
