/- Texts XRdP for XPcs, by trim.py. -/
import Derived.Test.YtjcdknhejcbpiaaGreatPb30
import Derived.Test.YtjcdknhejcbpiaaGreatPb07
namespace Go.Proofs.YtjcdknhejcbpiaaGreat
open Go.RowKit
set_option linter.unusedVariables false
set_option linter.unusedSimpArgs false
set_option linter.unusedSectionVars false
set_option maxRecDepth 100000
theorem run_slice_to {P : Program} (t e : TypeId) (size : Nat) (ht : P.underlying t = some (.slice e)) (hz : (P.info? e).map (·.size) = some size) (b off n cap i : Nat) (hi : i ≤ n) (hc : n ≤ cap) (w : World) :
    (Instr.sliceAt t (.slice (some ⟨b, off, none⟩) n cap) none (some (.int .i64 (i : Int))) none).run P w = .ok (.slice (some ⟨b, off, none⟩) i cap) w := by
  cases hq : P.info? e with
  | none => simp [hq] at hz
  | some inf =>
    have hsz : inf.size = size := by simpa [hq] using hz
    have h1 : (0 : Int) ≤ (i : Int) ∧ (i : Int) ≤ (cap : Int) := by omega
    simp only [Instr.sliceAt, Sem.run_bind, run_underlying ht, Result.andThen_ok, Instr.slice, Instr.sliceBounds, Instr.sliceBound, asIntOf, Sem.run_pure, h1, and_self, if_true, Int.toNat_natCast, sizeOf, typeInfo, hq]
    simp [program, Sem.run, hq, hsz, Addr.add]
/-- The base after the first j children. -/
def bsK (m : Ms) (ks : List Kd) (j : Nat) : Ms := ((ks.take j).map Kd.m).foldl Ms.add m
theorem bsK_succ (m : Ms) (ks : List Kd) (j : Nat) (k : Kd) (h : ks[j]? = some k) : bsK m ks (j + 1) = (bsK m ks j).add k.m := by
  have hkl := List.getElem?_eq_some_iff.1 h
  unfold bsK
  rw [List.take_succ_eq_append_getElem hkl.1, hkl.2, List.map_append, List.foldl_append]
  rfl
theorem msum_two (a b : Ms) : msum [a, b] = a.add b := by simp [msum, Ms.add]
set_option maxHeartbeats 4000000 in
theorem down_any (g : Nat) (r : Rd) (S : Nat → Prop) (hS : ¬ S g) (hh : Int) (s : ByteArray) (ks : List Kd) (a : Option Addr) (n c i : Nat) (hc : n ≤ c) (rest : Int) (k0 : Kd) (hk0 : ks[i]? = some k0) (hn : n ≤ 1000) (hm : ∀ k ∈ ks, k.m.ok) (hb : ∀ j, j ≤ i → (bsK r.base ks j).ok) (w : World) (h : Blk w g 111 r.cells) (hin : InP Kd.cells 4 w S a n ks) :
    Calls Tryz.prog 109 #[.pointer (some ⟨g, 0, none⟩), .agg #[.int .i64 hh, .string s, .slice a n c], .int .i64 (i : Int), .int .i64 rest] w (RdSet g { r with at' := hdl k0.at', rest := rest, base := bsK r.base ks i } w (.tuple #[])) := by
  obtain ⟨hi0, hi1⟩ := List.getElem?_eq_some_iff.1 hk0
  have hln := hin.1
  obtain ⟨b, off, rfl⟩ := hin.some (by omega)
  have hbl := hin.lt (by omega)
  have hsl := run_slice_to (P := Tryz.prog) 227 266 4 Tryz.underlying227 (by kernel_rfl) b off n c i (by omega) hc
  have hgl := h.lt
  have H := hid h
  have HIN := hid hin
  have HM := hid hm
  have HB := hid hb
  have HK0 := hid hk0
  have HSG := hid hS
  clear h hin hm hb hk0 hi1 hS
  go_enter Tryz.func109, Tryz.ntmps109
  go_wp2_with fail
  refine at_world fun W0 hW0 => ?_
  have C0 := hid (show Ch (fun b => b = g) w W0 from by rw [hW0]; exact (Ch.refl _ w).alloc _)
  have B0 := hid (show Blk W0 g 111 r.cells from by rw [hW0]; exact H.out.alloc _)
  have Z0 := hid (show Blk W0 w.heap.size 229 #[.int .i64 hh, .string s, .slice (some ⟨b, off, none⟩) n c] from by rw [hW0]; exact Blk.new w _ _)
  have HI0 := hid (HIN.out.keep (S' := S) C0.out (fun k _ h e => HSG.out (e ▸ h)) (fun k _ h => h))
  have n1 : w.heap.size ≠ g := Ne.symm (Nat.ne_of_lt hgl)
  have nb : b ≠ g := fun e => HSG.out (e ▸ hbl.2)
  have hb0 : b < W0.heap.size := Nat.lt_of_lt_of_le hbl.1 C0.out.size
  have hz0' := Z0.out.lt
  clear hW0 H HIN hbl
  go_loopw [15] (fun i1 W => ∃ k : Nat, k ≤ i ∧ i1 = .int .i64 (k : Int) ∧ Blk W g 111 (Rd.cells { r with base := bsK r.base ks k }) ∧ Ch (fun b => b = g) W0 W) (fun i1 _ => i - (intOf i1).toNat)
  case atStart => exact ⟨0, Nat.zero_le _, rfl, B0.out, Ch.refl _ _⟩
  case round =>
    clear B0
    obtain ⟨k, hk, rfl, hB, hCh⟩ := hrel
    have HBK := hid hB
    have HCH := hid hCh
    clear hB hCh
    have hI := HI0.out.keep (S' := S) HCH.out (fun k _ h e => HSG.out (e ▸ h)) (fun k _ h => h)
    by_cases hlt : k < i
    · obtain ⟨x, hx⟩ : ∃ x, ks[k]? = some x := ⟨_, List.getElem?_eq_getElem (by omega)⟩
      have c0 : wr.cell? ⟨b, off + k * 4, none⟩ = some (.int .u64 (hdl x.at')) := hI.at k x hx 0 _ rfl
      have c1 : wr.cell? ⟨b, off + k * 4 + 1, none⟩ = some (.int .i64 x.m.b) := hI.at k x hx 1 _ rfl
      have c2 : wr.cell? ⟨b, off + k * 4 + 2, none⟩ = some (.int .i64 x.m.r) := hI.at k x hx 2 _ rfl
      have c3 : wr.cell? ⟨b, off + k * 4 + 3, none⟩ = some (.int .i64 x.m.l) := hI.at k x hx 3 _ rfl
      have HBS := hid (bsK_succ r.base ks k x hx)
      have HXO := hid (HM.out x (List.mem_of_getElem? hx))
      have HQO := hid (HB.out k hk)
      obtain ⟨q, hq⟩ : ∃ q, q = bsK r.base ks k := ⟨_, rfl⟩
      rw [← hq] at HBS HBK HQO
      have y1 : decide (k < i) = true := decide_eq_true hlt
      have y2 : decide ((k : Int) < (i : Int)) = true := decide_eq_true (by omega)
      clear hI hx hq
      go_wp2_with fail
      refine at_world fun W2 hW2 => ?_
      have C2 := hid (show Ch (fun b => b = g) W0 W2 from by rw [hW2]; exact HCH.out.alloc _)
      have B2 := hid (show Blk W2 g 111 (Rd.cells { r with base := q }) from by rw [hW2]; exact HBK.out.alloc _)
      have K2 := hid (show Blk W2 wr.heap.size 266 #[.int .u64 (hdl x.at'), .int .i64 x.m.b, .int .i64 x.m.r, .int .i64 x.m.l] from by rw [hW2]; exact Blk.new wr _ _)
      clear hW2 c0 c1 c2 c3
      have d31 : W2.cell? ⟨g, 31, none⟩ = some (.int .i64 q.b) := B2.out.cell 31
      have d32 : W2.cell? ⟨g, 32, none⟩ = some (.int .i64 q.r) := B2.out.cell 32
      have d33 : W2.cell? ⟨g, 33, none⟩ = some (.int .i64 q.l) := B2.out.cell 33
      have e1 : W2.cell? ⟨wr.heap.size, 1, none⟩ = some (.int .i64 x.m.b) := K2.out.cell 1
      have e2 : W2.cell? ⟨wr.heap.size, 2, none⟩ = some (.int .i64 x.m.r) := K2.out.cell 2
      have e3 : W2.cell? ⟨wr.heap.size, 3, none⟩ = some (.int .i64 x.m.l) := K2.out.cell 3
      have HLW := hid HCH.out.size
      clear HBK HCH
      refine Mix.wp_region_mix (fun _ => True) (fun i => ([1, 0, 0, 0, 0, 0, 0, 2, 2, 0, 0, 2] : List Nat).getD i 0) [0, 1, 2, 3, 4, 5, 6, 7, 8, 9, 10, 11] (by kernel_rfl) (by kernel_rfl) ?_
      repeat (first | (refine Mix.mix_q (by simp only [List.getElem?_toArray, List.getElem?_cons_zero, List.getElem?_cons_succ]; exact rfl) rfl ?_; go_big_quiet_step (fail); refine wpQuiet_nil ?_) | (refine Mix.mix_p (by simp only [List.getElem?_toArray, List.getElem?_cons_zero, List.getElem?_cons_succ]; exact rfl) rfl rfl ?_; go_big_quiet_step (fail); refine wpQuiet_nil ?_) | (refine Mix.mix_s (by simp only [List.getElem?_toArray, List.getElem?_cons_zero, List.getElem?_cons_succ]; exact rfl) rfl rfl ?_; go_big_quiet_step (fail); refine wpQuiet_nil ?_))
      refine Mix.mix_e (by simp only [List.getElem?_toArray, List.getElem?_cons_zero, List.getElem?_cons_succ]; exact rfl) rfl fun W3 hW3 => ?_
      obtain ⟨k3, rfl⟩ := hW3
      go_wp2_with fail
      refine Mix.mix_world fun W4 hW4 => ?_
      have B4 := hid (show Blk W4 g 111 (Rd.cells { r with base := q }) from by rw [hW4]; exact (B2.out.drewN k3).alloc _)
      have C4 := hid (show Ch (fun b => b = g) W0 W4 from by rw [hW4]; exact (C2.out.drewN k3).alloc _)
      have A4 := hid (show Blk W4 W2.heap.size 36 #[.int .i64 q.b, .int .i64 q.r, .int .i64 q.l, .int .i64 x.m.b, .int .i64 x.m.r, .int .i64 x.m.l] from by rw [hW4]; have t := Blk.new (W2.drewN k3) 36 #[.int .i64 q.b, .int .i64 q.r, .int .i64 q.l, .int .i64 x.m.b, .int .i64 x.m.r, .int .i64 x.m.l]; simpa using t)
      have hin2 := hid (show InP Ms.cells 3 W4 (fun _ => True) (some ⟨W2.heap.size, 0, none⟩) 2 [q, x.m] from ⟨rfl, fun _ => ⟨W2.heap.size, 0, rfl, trivial, A4.out.lt, fun i j y v hi hj => by
        have t := flatP (cells := Ms.cells) (sz := 3) (fun _ => rfl) [q, x.m] i j y v hi hj
        rw [← List.getElem?_toArray] at t
        rw [Nat.zero_add]
        exact (A4.out.cell _).trans t⟩⟩)
      clear hW4 d31 d32 d33 e1 e2 e3
      repeat (first | (refine Mix.mix_q (by simp only [List.getElem?_toArray, List.getElem?_cons_zero, List.getElem?_cons_succ]; exact rfl) rfl ?_; go_big_quiet_step (fail); refine wpQuiet_nil ?_) | (refine Mix.mix_p (by simp only [List.getElem?_toArray, List.getElem?_cons_zero, List.getElem?_cons_succ]; exact rfl) rfl rfl ?_; go_big_quiet_step (fail); refine wpQuiet_nil ?_) | (refine Mix.mix_s (by simp only [List.getElem?_toArray, List.getElem?_cons_zero, List.getElem?_cons_succ]; exact rfl) rfl rfl ?_; go_big_quiet_step (fail); refine wpQuiet_nil ?_))
      refine Mix.mix_e (by simp only [List.getElem?_toArray, List.getElem?_cons_zero, List.getElem?_cons_succ]; exact rfl) rfl fun W5 hW5 => ?_
      obtain ⟨k5, rfl⟩ := hW5
      go_wp2_with fail
      refine calls_world fun W6 hW6 => ?_
      have C46 := hid (show Ch (fun _ => False) W4 W6 from by rw [hW6]; exact (Ch.refl _ W4).drewN k5)
      clear hW6
      refine (madd_any (fun _ => True) _ 2 2 [q, x.m] W6 (hin2.out.keep C46.out (fun _ _ _ h => h) (fun _ _ h => h)) (by
        intro m hm
        rcases List.mem_cons.1 hm with rfl | hm
        · exact HQO.out
        · rw [List.mem_singleton.1 hm]; exact HXO.out) (by decide)).mono ?_
      rintro e w7 ⟨rfl, hc⟩
      rw [msum_two, ← HBS.out]
      obtain ⟨q', hq'⟩ : ∃ q', q' = bsK r.base ks (k + 1) := ⟨_, rfl⟩
      rw [← hq']
      have HQ' := hid hq'
      clear hq'
      simp only [Ms.v]
      have B7 := hid (hc.blk (C46.out.blk B4.out id) id)
      have C7 := hid (show Ch (fun b => b = g) W0 w7 from C4.out.trans (C46.out.trans hc (fun _ _ h => h)) (fun _ _ h => h.elim))
      clear hc
      have d31 : w7.cell? ⟨g, 31, none⟩ = some (.int .i64 q.b) := B7.out.cell 31
      have d32 : w7.cell? ⟨g, 32, none⟩ = some (.int .i64 q.r) := B7.out.cell 32
      have d33 : w7.cell? ⟨g, 33, none⟩ = some (.int .i64 q.l) := B7.out.cell 33
      have f31 := B7.out.free 31
      have f32 := B7.out.free 32
      have f33 := B7.out.free 33
      go_wp2_with fail
      repeat (first | (refine Mix.mix_q (by simp only [List.getElem?_toArray, List.getElem?_cons_zero, List.getElem?_cons_succ]; exact rfl) rfl ?_; go_big_quiet_step (fail); refine wpQuiet_nil ?_) | (refine Mix.mix_p (by simp only [List.getElem?_toArray, List.getElem?_cons_zero, List.getElem?_cons_succ]; exact rfl) rfl rfl ?_; go_big_quiet_step (fail); refine wpQuiet_nil ?_) | (refine Mix.mix_s (by simp only [List.getElem?_toArray, List.getElem?_cons_zero, List.getElem?_cons_succ]; exact rfl) rfl rfl ?_; go_big_quiet_step (fail); refine wpQuiet_nil ?_))
      refine Mix.mix_e (by simp only [List.getElem?_toArray, List.getElem?_cons_zero, List.getElem?_cons_succ]; exact rfl) rfl fun W8 hW8 => ?_
      obtain ⟨k8, rfl⟩ := hW8
      go_wp2_with fail
      intro k9
      go_wp2_with fail
      go_roundw
      case rel => exact ⟨k + 1, by omega, by go_num, Blk.as (((((B7.out.drewN k8).put 31 _).put 32 _).put 33 _).drewN k9) (by rw [← HQ'.out]; kernel_rfl), (((((C7.out.drewN k8).set (fun _ => rfl) _).set (fun _ => rfl) _).set (fun _ => rfl) _).drewN k9)⟩
      case measure => simp [intOf]; omega
    · obtain rfl : i = k := by omega
      have y1 : decide (i < i) = false := decide_eq_false (by omega)
      have y2 : decide ((i : Int) < (i : Int)) = false := decide_eq_false (by omega)
      have Z2 := hid (HCH.out.blk Z0.out n1)
      have z2 : wr.cell? ⟨w.heap.size, 2, none⟩ = some (.slice (some ⟨b, off, none⟩) n c) := Z2.out.cell 2
      have c0 : wr.cell? ⟨b, off + i * 4, none⟩ = some (.int .u64 (hdl k0.at')) := hI.at i k0 HK0.out 0 _ rfl
      have y3 : decide ((i : Int) < (n : Int)) = true := decide_eq_true (by omega)
      have y4 : decide (i < n) = true := decide_eq_true (by omega)
      have d29 : wr.cell? ⟨g, 29, none⟩ = some (.int .u64 r.at') := HBK.out.cell 29
      have d30 : wr.cell? ⟨g, 30, none⟩ = some (.int .i64 r.rest) := HBK.out.cell 30
      have f29 := HBK.out.free 29
      have f30 := HBK.out.free 30
      clear hI
      go_wp2_with fail
      go_end0
      exact ⟨rfl, Blk.as ((HBK.out.put 29 _).put 30 _) (by kernel_rfl), (C0.out.trans HCH.out (fun _ _ h => h)).set (fun _ => rfl) _ |>.set (fun _ => rfl) _⟩
end Go.Proofs.YtjcdknhejcbpiaaGreat
