/- Lemmas that the proof of the last text leans on; no condition. -/
import Derived.Test.YtjcdknhejcbpiaaGreatNb32
import Derived.Test.YtjcdknhejcbpiaaGreatNb10
namespace Go.Proofs.YtjcdknhejcbpiaaGreat
open Go.RowKit
set_option linter.unusedVariables false
set_option linter.unusedSimpArgs false
set_option linter.unusedSectionVars false
set_option maxRecDepth 100000
set_option maxHeartbeats 4000000 in
theorem begin_no (A : ArA) (ns : List An) (st : Int) (t : T) (cs : List Value) (S : Nat → Prop) (w : World) (h : ArM A w ns st) (hP : ArP ns) (hg : t.good) (hT : TreeAt w S t cs) (hb : t.bytes ≤ 65536) (hc : t.cnt ≤ 60000) (hroom : A.n - ns.length < t.cnt) (hn : A.n ≤ 16384) :
    Calls Tryz.prog 119 #[.pointer (some ⟨A.ab, 0, none⟩), .agg cs.toArray] w fun e w' => e = .returned (.tuple #[.pointer none, .int .i64 6]) ∧ Ch (fun _ => False) w w' := by
  obtain ⟨s, a, n, c, rfl⟩ := hT.form
  have d1 : decide (A.n - ns.length < t.cnt) = true := decide_eq_true (by omega)
  have d2 : decide (((A.n - ns.length : Nat) : Int) < (t.cnt : Int)) = true := decide_eq_true (by omega)
  obtain ⟨F, hF⟩ : ∃ F, F = A.n - ns.length := ⟨_, rfl⟩
  rw [← hF] at d1 d2
  obtain ⟨TC, hTC⟩ : ∃ x, x = t.cnt := ⟨_, rfl⟩
  rw [← hTC] at d1 d2
  have H := hid h
  have HP := hid hP
  have HG := hid hg
  have HT := hid hT
  have HF := hid hF
  have HTC := hid hTC
  have HB := hid hb
  have HC := hid hc
  clear h hP hT hg hF hTC hroom hb hc
  go_enter Tryz.func119, Tryz.ntmps119
  go_wp2_with fail
  refine calls_world fun W1 hW1 => ?_
  have C1 := hid (show Ch (fun _ => False) w W1 from by rw [hW1]; exact (Ch.refl _ w).alloc _)
  have T1 := hid (HT.out.keep C1.out (fun _ _ _ => id) (fun _ _ h => h) (S' := S))
  have K1 := hid (show Blk W1 w.heap.size 183 #[.int .u64 0, .int .i64 (Int.ofNat t.ht), .int .i64 0, .int .i64 0, .int .i64 0, .string s, .slice a n c] from by rw [hW1]; exact Blk.new w _ _)
  clear hW1
  refine (pcheck_any A.ab t _ W1 S HG.out T1.out HB.out).mono ?_
  rintro e W2 ⟨rfl, hc2⟩
  have C2 := hid (C1.out.trans hc2 (fun _ _ e => e))
  have K2 := hid (hc2.blk K1.out id)
  have T2 := hid (T1.out.keep hc2 (fun _ _ _ => id) (fun _ _ h => h) (S' := S))
  clear hc2 C1 T1 K1
  have k0 : W2.cell? ⟨w.heap.size, 0, none⟩ = some (.int .u64 0) := K2.out.cell 0
  have k1 : W2.cell? ⟨w.heap.size, 1, none⟩ = some (.int .i64 (Int.ofNat t.ht)) := K2.out.cell 1
  have k2 : W2.cell? ⟨w.heap.size, 2, none⟩ = some (.int .i64 0) := K2.out.cell 2
  have k3 : W2.cell? ⟨w.heap.size, 3, none⟩ = some (.int .i64 0) := K2.out.cell 3
  have k4 : W2.cell? ⟨w.heap.size, 4, none⟩ = some (.int .i64 0) := K2.out.cell 4
  have k5 : W2.cell? ⟨w.heap.size, 5, none⟩ = some (.string s) := K2.out.cell 5
  have k6 : W2.cell? ⟨w.heap.size, 6, none⟩ = some (.slice a n c) := K2.out.cell 6
  go_wp2_with fail
  refine (gnew_any t _ W2 S HG.out T2.out (by have := HC.out; omega)).mono ?_
  rintro e W3 ⟨rfl, hc3⟩
  have C3 := hid (C2.out.trans hc3 (fun _ _ e => e))
  have K3 := hid (hc3.blk K2.out id)
  have T3 := hid (T2.out.keep hc3 (fun _ _ _ => id) (fun _ _ h => h) (S' := S))
  clear hc3 C2 T2 K2 k0 k1 k2 k3 k4 k5 k6
  rw [← HTC.out]
  go_wp2_with fail
  refine (statsM A ns st hn W3 (H.out.keep0 C3.out)).mono ?_
  rintro e W4 ⟨rfl, hc4⟩
  rw [← HF.out]
  have C4 := hid (C3.out.trans hc4 (fun _ _ e => e))
  have K4 := hid (hc4.blk K3.out id)
  have T4 := hid (T3.out.keep hc4 (fun _ _ _ => id) (fun _ _ h => h) (S' := S))
  clear hc4 C3 T3 K3
  have k0 : W4.cell? ⟨w.heap.size, 0, none⟩ = some (.int .u64 0) := K4.out.cell 0
  have k1 : W4.cell? ⟨w.heap.size, 1, none⟩ = some (.int .i64 (Int.ofNat t.ht)) := K4.out.cell 1
  have k2 : W4.cell? ⟨w.heap.size, 2, none⟩ = some (.int .i64 0) := K4.out.cell 2
  have k3 : W4.cell? ⟨w.heap.size, 3, none⟩ = some (.int .i64 0) := K4.out.cell 3
  have k4 : W4.cell? ⟨w.heap.size, 4, none⟩ = some (.int .i64 0) := K4.out.cell 4
  have k5 : W4.cell? ⟨w.heap.size, 5, none⟩ = some (.string s) := K4.out.cell 5
  have k6 : W4.cell? ⟨w.heap.size, 6, none⟩ = some (.slice a n c) := K4.out.cell 6
  have hfd : ∀ W, (Instr.field 97 (.agg #[.int .i64 (A.n : Int), .int .i64 (F : Int), .int .i64 (ns.length : Int), .int .i64 0, .int .i64 (ns.length : Int), .int .i64 0, .int .i64 st]) 1).run Tryz.prog W = .ok (.int .i64 (F : Int)) W := fun W => by kernel_rfl
  go_wp2_with fail
  go_ret2
  exact ⟨rfl, C4.out⟩
set_option maxHeartbeats 4000000 in
theorem write_no (A : ArA) (ns : List An) (st : Int) (t : T) (cs : List Value) (S : Nat → Prop) (w : World) (h : ArM A w ns st) (hP : ArP ns) (hg : t.good) (hT : TreeAt w S t cs) (hb : t.bytes ≤ 65536) (hc : t.cnt ≤ 60000) (hroom : A.n - ns.length < t.cnt) (hn : A.n ≤ 16384) :
    Calls Tryz.prog 81 #[.pointer (some ⟨A.ab, 0, none⟩), .agg cs.toArray] w fun e w' => e = .returned (.tuple #[.agg #[.int .u64 0, .int .i64 0, .int .i64 0, .int .i64 0, .int .i64 0], .slice none 0 0, .int .i64 6]) ∧ Ch (fun _ => False) w w' := by
  obtain ⟨s, a, n, c, rfl⟩ := hT.form
  have H := hid h
  have HP := hid hP
  have HG := hid hg
  have HT := hid hT
  have HB := hid hb
  have HC := hid hc
  have HR := hid hroom
  have HN := hid hn
  clear h hP hT hg hroom hb hc hn
  go_enter Tryz.func81, Tryz.ntmps81
  go_wp2_with fail
  refine calls_world fun W1 hW1 => ?_
  obtain ⟨b0, hb0⟩ : ∃ x, x = w.heap.size := ⟨_, rfl⟩
  have C1 := hid (show Ch (fun _ => False) w W1 from by rw [hW1]; exact ((Ch.refl _ w).alloc _).alloc _)
  have R1 := hid (show Blk W1 (b0 + 1) 102 #[.int .u64 0, .int .i64 0, .int .i64 0, .int .i64 0, .int .i64 0] from by
    rw [hW1, hb0]
    have t := Blk.new (w.alloc (.cells #[.int .u64 0, .int .i64 (Int.ofNat t.ht), .int .i64 0, .int .i64 0, .int .i64 0, .string s, .slice a n c] 183)) 102 #[.int .u64 0, .int .i64 0, .int .i64 0, .int .i64 0, .int .i64 0]
    simpa using t)
  have T1 := hid (HT.out.keep C1.out (fun _ _ _ => id) (fun _ _ h => h) (S' := S))
  clear hW1
  rw [show w.heap.size + 1 = b0 + 1 by omega, ← hb0]
  have HZ := hid hb0
  clear hb0
  refine (begin_no A ns st t _ S W1 (H.out.keep0 C1.out) HP.out HG.out T1.out HB.out HC.out HR.out HN.out).mono ?_
  rintro e W2 ⟨rfl, hc2⟩
  have C2 := hid (C1.out.trans hc2 (fun _ _ e => e))
  have R2 := hid (hc2.blk R1.out id)
  clear hc2 R1 T1 C1
  have z0 : W2.cell? ⟨b0 + 1, 0, none⟩ = some (.int .u64 0) := R2.out.cell 0
  have f0 := R2.out.free 0
  have z1 : W2.cell? ⟨b0 + 1, 1, none⟩ = some (.int .i64 0) := R2.out.cell 1
  have f1 := R2.out.free 1
  have z2 : W2.cell? ⟨b0 + 1, 2, none⟩ = some (.int .i64 0) := R2.out.cell 2
  have f2 := R2.out.free 2
  have z3 : W2.cell? ⟨b0 + 1, 3, none⟩ = some (.int .i64 0) := R2.out.cell 3
  have f3 := R2.out.free 3
  have z4 : W2.cell? ⟨b0 + 1, 4, none⟩ = some (.int .i64 0) := R2.out.cell 4
  have f4 := R2.out.free 4
  go_wp2_with fail
  refine at_world fun WZ hWZ => ?_
  have CZ := hid (show Ch (fun k => k = b0 + 1) W2 WZ from by rw [hWZ]; exact ((((((Ch.refl (fun k => k = b0 + 1) W2).set (fun _ => rfl) _).set (fun _ => rfl) _).set (fun _ => rfl) _).set (fun _ => rfl) _).set (fun _ => rfl) _))
  have BZ := hid (show Blk WZ (b0 + 1) 102 #[.int .u64 0, .int .i64 0, .int .i64 0, .int .i64 0, .int .i64 0] from by rw [hWZ]; exact (((((R2.out.put 0 _).put 1 _).put 2 _).put 3 _).put 4 _))
  clear hWZ z0 z1 z2 z3 z4 f0 f1 f2 f3 f4
  have t0 : WZ.cell? ⟨b0 + 1, 0, none⟩ = some (.int .u64 0) := BZ.out.cell 0
  have t1 : WZ.cell? ⟨b0 + 1, 1, none⟩ = some (.int .i64 0) := BZ.out.cell 1
  have t2 : WZ.cell? ⟨b0 + 1, 2, none⟩ = some (.int .i64 0) := BZ.out.cell 2
  have t3 : WZ.cell? ⟨b0 + 1, 3, none⟩ = some (.int .i64 0) := BZ.out.cell 3
  have t4 : WZ.cell? ⟨b0 + 1, 4, none⟩ = some (.int .i64 0) := BZ.out.cell 4
  refine bodyPost_ret (v := .tuple #[.agg #[.int .u64 0, .int .i64 0, .int .i64 0, .int .i64 0, .int .i64 0], .slice none 0 0, .int .i64 6]) (by simp [results, Tryz.results81, go_sem, t0, t1, t2, t3, t4]) rfl ⟨rfl, C2.out.trans CZ.out (fun i hi e => absurd hi (by have := HZ.out; omega))⟩
set_option maxHeartbeats 4000000 in
theorem rope_no (A : ArA) (ns : List An) (st : Int) (s : ByteArray) (t : T) (w : World) (h : ArM A w ns st) (hP : ArP ns) (h0 : 0 < s.size) (hs : s.size ≤ 65536) (ht : buildT s = [t]) (hc : t.cnt ≤ 60000) (hroom : A.n - ns.length < t.cnt) (hn : A.n ≤ 16384) :
    Calls Tryz.prog 47 #[.pointer (some ⟨A.ab, 0, none⟩), .string s] w fun e w' => e = .returned (.tuple #[.agg #[.int .u64 0, .int .i64 0, .int .i64 0, .int .i64 0, .int .i64 0], .int .i64 6]) ∧ Ch (fun _ => False) w w' := by
  obtain ⟨t', ht', hg, hb⟩ := build_good h0 hs
  rw [ht] at ht'
  injection ht' with ht' _
  subst ht'
  have H := hid h
  have HP := hid hP
  have HG := hid hg
  have HB := hid hb
  have HC := hid hc
  have HR := hid hroom
  have HN := hid hn
  have HT := hid ht
  have HS0 := hid h0
  have HS := hid hs
  clear h hP hg hb hc hroom hn ht h0 hs
  go_enter Tryz.func47, Tryz.ntmps47
  go_wp2_with fail
  refine calls_world fun W1 hW1 => ?_
  have C1 := hid (show Ch (fun _ => False) w W1 from by rw [hW1]; exact (Ch.refl _ w).alloc _)
  have R1 := hid (show Blk W1 w.heap.size 102 #[.int .u64 0, .int .i64 0, .int .i64 0, .int .i64 0, .int .i64 0] from by rw [hW1]; exact Blk.new w _ _)
  clear hW1
  refine (build_any s HS.out W1).mono ?_
  rintro e W2 ⟨cs, rfl, hc2, hcs⟩
  have hT : TreeAt W2 (fun k => W1.heap.size ≤ k) t cs := by
    rcases hcs with ⟨e0, _⟩ | ⟨t', e1, e2⟩
    · have := HS0.out; omega
    · rw [HT.out] at e1
      injection e1 with e1 _
      subst e1
      exact e2
  obtain ⟨cs0, ca, cn, cc, rfl⟩ := hT.form
  have T2 := hid hT
  have C2 := hid (C1.out.trans hc2 (fun _ _ e => e))
  have R2 := hid (hc2.blk R1.out id)
  clear hT hcs hc2 C1 R1
  go_wp2_with fail
  refine calls_world fun W3 hW3 => ?_
  have D3 := hid (show Ch (fun _ => False) W2 W3 from by rw [hW3]; exact (Ch.refl _ W2).alloc _)
  have C3 := hid (C2.out.trans D3.out (fun _ _ e => e))
  have R3 := hid (D3.out.blk R2.out id)
  have T3 := hid (T2.out.keep D3.out (fun _ _ _ => id) (fun _ _ h => h) (S' := fun k => W1.heap.size ≤ k))
  have A3 := hid (H.out.keep0 C3.out)
  clear hW3 D3 R2 C2 T2
  refine (write_no A ns st t _ _ W3 A3.out HP.out HG.out T3.out (by rw [HB.out]; exact HS.out) HC.out HR.out HN.out).mono ?_
  rintro e W4 ⟨rfl, hC4⟩
  have C4 := hid (C3.out.trans hC4 (fun _ _ e => e))
  have R4 := hid (hC4.blk R3.out id)
  clear hC4
  have z0 : W4.cell? ⟨w.heap.size, 0, none⟩ = some (.int .u64 0) := R4.out.cell 0
  have f0 := R4.out.free 0
  have z1 : W4.cell? ⟨w.heap.size, 1, none⟩ = some (.int .i64 0) := R4.out.cell 1
  have f1 := R4.out.free 1
  have z2 : W4.cell? ⟨w.heap.size, 2, none⟩ = some (.int .i64 0) := R4.out.cell 2
  have f2 := R4.out.free 2
  have z3 : W4.cell? ⟨w.heap.size, 3, none⟩ = some (.int .i64 0) := R4.out.cell 3
  have f3 := R4.out.free 3
  have z4 : W4.cell? ⟨w.heap.size, 4, none⟩ = some (.int .i64 0) := R4.out.cell 4
  have f4 := R4.out.free 4
  have hwl : w.heap.size < W4.heap.size := R4.out.lt
  go_wp2_with fail
  refine at_world fun WZ hWZ => ?_
  have CZ := hid (show Ch (fun k => k = w.heap.size) W4 WZ from by rw [hWZ]; exact (((((((Ch.refl (fun k => k = w.heap.size) W4).set (fun _ => rfl) _).set (fun _ => rfl) _).set (fun _ => rfl) _).set (fun _ => rfl) _).set (fun _ => rfl) _).alloc _))
  have BZ := hid (show Blk WZ w.heap.size 102 #[.int .u64 0, .int .i64 0, .int .i64 0, .int .i64 0, .int .i64 0] from by rw [hWZ]; exact ((((((R4.out.put 0 _).put 1 _).put 2 _).put 3 _).put 4 _).alloc _))
  clear hWZ z0 z1 z2 z3 z4 f0 f1 f2 f3 f4
  have t0 : WZ.cell? ⟨w.heap.size, 0, none⟩ = some (.int .u64 0) := BZ.out.cell 0
  have t1 : WZ.cell? ⟨w.heap.size, 1, none⟩ = some (.int .i64 0) := BZ.out.cell 1
  have t2 : WZ.cell? ⟨w.heap.size, 2, none⟩ = some (.int .i64 0) := BZ.out.cell 2
  have t3 : WZ.cell? ⟨w.heap.size, 3, none⟩ = some (.int .i64 0) := BZ.out.cell 3
  have t4 : WZ.cell? ⟨w.heap.size, 4, none⟩ = some (.int .i64 0) := BZ.out.cell 4
  refine bodyPost_ret (v := .tuple #[.agg #[.int .u64 0, .int .i64 0, .int .i64 0, .int .i64 0, .int .i64 0], .int .i64 6]) (by simp [results, Tryz.results47, go_sem, t0, t1, t2, t3, t4]) rfl ⟨rfl, C4.out.trans CZ.out (fun i hi e => absurd hi (by omega))⟩
theorem ArM.st {A : ArA} {w : World} (h : ArM A w [] 0) : ∃ xs, StM w A.ab A.n A.lb A.mb A.g0 A.g1 xs := by
  have e : fillA (fun _ => Value.int .u8 1) (.int .u8 0) A.n 0 = fillA (fun _ => .int .u8 0) (.int .u8 0) A.n A.n := by simp [fillA]
  refine ⟨(List.range A.n).map (fun i : Nat => (A.n : Int) - 1 - i), h.a, ?_, h.l.lt, h.l.cell 0, h.l.cell 1, ?_, ?_, by simp⟩
  · obtain ⟨bs, hl, hm⟩ := h.m
    simpa [entsF] using hm
  · have := h.b0
    rw [fill_i64s (fun i : Nat => (A.n : Int) - 1 - i)] at this
    exact this
  · have t := h.b1
    rw [show ([] : List An).length = 0 from rfl, e] at t
    exact t
theorem rope_zero (A : ArA) (w : World) (h : ArM A w [] 0) (hn : A.n ≤ 16384) : Calls Tryz.prog 47 #[.pointer (some ⟨A.ab, 0, none⟩), .string ⟨#[]⟩] w fun e w' => e = .returned (.tuple #[.agg #[.int .u64 0, .int .i64 0, .int .i64 0, .int .i64 0, .int .i64 0], .int .i64 0]) ∧ Ch (fun _ => False) w w' := by
  obtain ⟨xs, hS⟩ := h.st
  exact rnew0 A.ab A.n A.lb A.mb A.g0 A.g1 xs hn w hS
end Go.Proofs.YtjcdknhejcbpiaaGreat
