/- Lemmas that the proof of the last text leans on; no condition. -/
import Derived.Test.YtjcdknhejcbpiaaGreatNb31
import Derived.Test.YtjcdknhejcbpiaaGreatNb19
namespace Go.Proofs.YtjcdknhejcbpiaaGreat
open Go.RowKit
set_option linter.unusedVariables false
set_option linter.unusedSimpArgs false
set_option linter.unusedSectionVars false
set_option maxRecDepth 100000
def RopeOut (A : ArA) (ns : List An) (st : Int) (t : T) (w : World) (e : Ending) (w' : World) : Prop := ∃ (ys : List An), e = .returned (.tuple #[t.rv (hdl (ns.length + (t.cnt - 1))), .int .i64 0]) ∧ ArM A w' (ns ++ ys) st ∧ ArP (ns ++ ys) ∧ ys.length = t.cnt ∧
  (∀ (j : Nat) (y : An), ys[j]? = some y → ∃ sp, (T.post 0 t)[j]? = some sp ∧ y.x = sp.nd ns.length (T.post 0 t)) ∧ Ch A.mut w w' ∧ ∀ y ∈ ys, ∀ b, y.kb b → w.heap.size ≤ b
set_option maxHeartbeats 4000000 in
theorem rope_new (A : ArA) (ns : List An) (st : Int) (s : ByteArray) (t : T) (w : World) (h : ArM A w ns st) (hP : ArP ns) (h0 : 0 < s.size) (hs : s.size ≤ 65536) (ht : buildT s = [t]) (hc : t.cnt ≤ 60000) (hroom : t.cnt ≤ A.n - ns.length) (hn : A.n ≤ 16384) :
    Calls Tryz.prog 47 #[.pointer (some ⟨A.ab, 0, none⟩), .string s] w (RopeOut A ns st t w) := by
  obtain ⟨t', ht', hg, hb⟩ := build_good h0 hs
  rw [ht] at ht'
  injection ht' with ht' _
  subst ht'
  have H := hid h
  have HP := hid hP
  have HG := hid hg
  have HB := hid hb
  have HC := hid hc
  have HR := hid hroom
  have HN := hid hn
  have HT := hid ht
  have HS0 := hid h0
  have HS := hid hs
  clear h hP hg hb hc hroom hn ht h0 hs
  go_enter Tryz.func47, Tryz.ntmps47
  go_wp2_with fail
  refine calls_world fun W1 hW1 => ?_
  have C1 := hid (show Ch (fun _ => False) w W1 from by rw [hW1]; exact (Ch.refl _ w).alloc _)
  have R1 := hid (show Blk W1 w.heap.size 102 #[.int .u64 0, .int .i64 0, .int .i64 0, .int .i64 0, .int .i64 0] from by rw [hW1]; exact Blk.new w _ _)
  clear hW1
  refine (build_any s HS.out W1).mono ?_
  rintro e W2 ⟨cs, rfl, hc2, hcs⟩
  have hT : TreeAt W2 (fun k => W1.heap.size ≤ k) t cs := by
    rcases hcs with ⟨e0, _⟩ | ⟨t', e1, e2⟩
    · have := HS0.out; omega
    · rw [HT.out] at e1
      injection e1 with e1 _
      subst e1
      exact e2
  obtain ⟨cs0, ca, cn, cc, rfl⟩ := hT.form
  have T2 := hid hT
  have C2 := hid (C1.out.trans hc2 (fun _ _ e => e))
  have R2 := hid (hc2.blk R1.out id)
  clear hT hcs hc2 C1 R1
  go_wp2_with fail
  refine calls_world fun W3 hW3 => ?_
  have D3 := hid (show Ch (fun _ => False) W2 W3 from by rw [hW3]; exact (Ch.refl _ W2).alloc _)
  have C3 := hid (C2.out.trans D3.out (fun _ _ e => e))
  have R3 := hid (D3.out.blk R2.out id)
  have T3 := hid (T2.out.keep D3.out (fun _ _ _ => id) (fun _ _ h => h) (S' := fun k => W1.heap.size ≤ k))
  have A3 := hid (H.out.keep0 C3.out)
  clear hW3 D3 R2 C2 T2
  refine (write_any A ns st t _ _ W3 A3.out HP.out HG.out T3.out (by rw [HB.out]; exact HS.out) HC.out HR.out HN.out).mono ?_
  rintro e W4 ⟨ys, v, rfl, ho, hM, hP4, hyl, hyx, hC4, hky⟩
  have M4 := hid hM
  have P4 := hid hP4
  have YL := hid hyl
  have YX := hid hyx
  have C4 := hid hC4
  have KY := hid hky
  obtain ⟨va, vc, hv, _⟩ := own_slice ho
  subst hv
  have hsz3 := C3.out.size
  have R4 := hid (hC4.blk R3.out (A3.out.off R3.out (by decide) (by decide) (by decide)))
  clear ho hM hP4 hyl hyx hC4 hky
  obtain ⟨H1, hH1⟩ : ∃ x : Int, x = hdl (ns.length + (t.cnt - 1)) := ⟨_, rfl⟩
  obtain ⟨rm, hrm⟩ : ∃ x, x = t.meas := ⟨_, rfl⟩
  obtain ⟨rh, hrh⟩ : ∃ x, x = t.ht := ⟨_, rfl⟩
  have hrv : t.rv (hdl (ns.length + (t.cnt - 1))) = .agg #[.int .u64 H1, .int .i64 (rh : Int), .int .i64 rm.b, .int .i64 rm.r, .int .i64 rm.l] := by rw [hH1, hrm, hrh]; rfl
  rw [hrv]
  have HRV := hid hrv
  clear hH1 hrm hrv
  have HRH := hid hrh
  clear hrh
  have z0 : W4.cell? ⟨w.heap.size, 0, none⟩ = some (.int .u64 0) := R4.out.cell 0
  have f0 := R4.out.free 0
  have z1 : W4.cell? ⟨w.heap.size, 1, none⟩ = some (.int .i64 0) := R4.out.cell 1
  have f1 := R4.out.free 1
  have z2 : W4.cell? ⟨w.heap.size, 2, none⟩ = some (.int .i64 0) := R4.out.cell 2
  have f2 := R4.out.free 2
  have z3 : W4.cell? ⟨w.heap.size, 3, none⟩ = some (.int .i64 0) := R4.out.cell 3
  have f3 := R4.out.free 3
  have z4 : W4.cell? ⟨w.heap.size, 4, none⟩ = some (.int .i64 0) := R4.out.cell 4
  have f4 := R4.out.free 4
  have hwl : w.heap.size < W4.heap.size := R4.out.lt
  go_wp2_with fail
  refine at_world fun WZ hWZ => ?_
  have CZ := hid (show Ch (fun k => k = w.heap.size) W4 WZ from by rw [hWZ]; exact (((((((Ch.refl (fun k => k = w.heap.size) W4).set (fun _ => rfl) _).set (fun _ => rfl) _).set (fun _ => rfl) _).set (fun _ => rfl) _).set (fun _ => rfl) _).alloc _))
  have BZ := hid (show Blk WZ w.heap.size 102 #[.int .u64 H1, .int .i64 (rh : Int), .int .i64 rm.b, .int .i64 rm.r, .int .i64 rm.l] from by rw [hWZ]; exact ((((((R4.out.put 0 _).put 1 _).put 2 _).put 3 _).put 4 _).alloc _))
  clear hWZ z0 z1 z2 z3 z4 f0 f1 f2 f3 f4
  have t0 : WZ.cell? ⟨w.heap.size, 0, none⟩ = some (.int .u64 H1) := BZ.out.cell 0
  have t1 : WZ.cell? ⟨w.heap.size, 1, none⟩ = some (.int .i64 (rh : Int)) := BZ.out.cell 1
  have t2 : WZ.cell? ⟨w.heap.size, 2, none⟩ = some (.int .i64 rm.b) := BZ.out.cell 2
  have t3 : WZ.cell? ⟨w.heap.size, 3, none⟩ = some (.int .i64 rm.r) := BZ.out.cell 3
  have t4 : WZ.cell? ⟨w.heap.size, 4, none⟩ = some (.int .i64 rm.l) := BZ.out.cell 4
  have hr5 : ∀ b, A.foot (ns ++ ys) b → ¬ b = w.heap.size := fun b hf e => by
    rw [e] at hf
    rcases hf with hf | hf | hf | ⟨z, hz, hf⟩
    · exact M4.out.off R4.out (by decide) (by decide) (by decide) hf
    · exact Blk.ne R4.out M4.out.b0 (by decide) hf
    · exact Blk.ne R4.out M4.out.b2 (by decide) hf
    · rcases List.mem_append.1 hz with hz | hz
      · have := H.out.foot_lt (.inr (.inr (.inr ⟨z, hz, hf⟩)))
        omega
      · have := KY.out z hz _ hf
        have := R3.out.lt
        omega
  refine bodyPost_ret (v := .tuple #[.agg #[.int .u64 H1, .int .i64 (rh : Int), .int .i64 rm.b, .int .i64 rm.r, .int .i64 rm.l], .int .i64 0]) (by simp [results, Tryz.results47, go_sem, t0, t1, t2, t3, t4]) rfl ⟨ys, by rw [HRV.out], M4.out.keep CZ.out (fun b _ hf => hr5 b hf), P4.out, YL.out, YX.out, ((C3.out.mono (fun _ _ e => e.elim)).trans C4.out (fun _ _ e => e)).trans CZ.out (fun i hi e => absurd hi (by omega)), fun y hy b hb => by have := KY.out y hy b hb; omega⟩
end Go.Proofs.YtjcdknhejcbpiaaGreat
