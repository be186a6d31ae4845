/- Texts XRdI, XRdJ, XRdK for XPcs, by trim.py. -/
import Derived.Test.YtjcdknhejcbpiaaGreatPb23
import Derived.Laws.StructEq
import Derived.Test.YtjcdknhejcbpiaaGreatPb24
import Derived.Test.YtjcdknhejcbpiaaGreatPb25
namespace Go.Proofs.YtjcdknhejcbpiaaGreat
open Go.RowKit
set_option linter.unusedVariables false
set_option linter.unusedSimpArgs false
set_option linter.unusedSectionVars false
set_option maxRecDepth 100000
set_option maxHeartbeats 1000000 in
theorem formed_5 (g : Nat) (w : World) : Calls Tryz.prog 93 #[.pointer (some ⟨g, 0, none⟩), .agg #[.int .u8 5, .int .i64 0, .int .i64 0, .int .i64 0, .int .u32 0, .int .u8 0, .string ⟨#[]⟩]] w fun e w' => e = .returned (.bool true) ∧ Ch (fun _ => False) w w' := by
  go_enter Tryz.func93, Tryz.ntmps93
  go_wp2_with fail
  go_ret
  exact ⟨rfl, ((Ch.refl _ w).alloc _).alloc _⟩
set_option maxHeartbeats 2000000 in
theorem formed_12 (g lb n : Nat) (r : Rd) (sl num : Int) (w : World) (h : Blk w g 111 r.cells) (hs : r.sl = .slice (some ⟨lb, 0, none⟩) n n) (h1 : 0 ≤ sl) (h2 : sl < (n : Int)) (h4 : 0 ≤ num) :
    Calls Tryz.prog 93 #[.pointer (some ⟨g, 0, none⟩), .agg #[.int .u8 12, .int .i64 sl, .int .i64 0, .int .i64 num, .int .u32 0, .int .u8 0, .string ⟨#[]⟩]] w fun e w' => e = .returned (.bool true) ∧ Ch (fun _ => False) w w' := by
  have d1 : decide (0 ≤ sl) = true := decide_eq_true h1
  have d2 : decide (sl < (n : Int)) = true := decide_eq_true h2
  have d4 : decide (0 ≤ num) = true := decide_eq_true h4
  have H := hid h
  have HS := hid hs
  have lg := h.lt
  clear h hs h1 h2 h4
  go_enter Tryz.func93, Tryz.ntmps93
  go_wp2_with fail
  obtain ⟨xb, hxb⟩ : ∃ x, x = w.heap.size + 1 := ⟨_, rfl⟩
  rw [← hxb]
  have nx : w.heap.size ≠ xb := by omega
  have nx2 : xb ≠ w.heap.size := Ne.symm nx
  refine at_world fun W5 hW5 => ?_
  have T5 := hid (show Blk W5 w.heap.size 26 #[.int .u8 12, .int .i64 sl, .int .i64 0, .int .i64 num, .int .u32 0, .int .u8 0, .string ⟨#[]⟩] from by
    rw [hW5]
    exact (Blk.new w 26 #[.int .u8 12, .int .i64 sl, .int .i64 0, .int .i64 num, .int .u32 0, .int .u8 0, .string ⟨#[]⟩]).alloc _)
  have X5 := hid (show Blk W5 xb 26 #[.int .u8 12, .int .i64 sl, .int .i64 0, .int .i64 num, .int .u32 0, .int .u8 0, .string ⟨#[]⟩] from by
    rw [hW5]
    rw [hxb]
    have t := Blk.new (w.alloc (.cells #[.int .u8 12, .int .i64 sl, .int .i64 0, .int .i64 num, .int .u32 0, .int .u8 0, .string ⟨#[]⟩] 26)) 26 #[.int .u8 12, .int .i64 sl, .int .i64 0, .int .i64 num, .int .u32 0, .int .u8 0, .string ⟨#[]⟩]
    simpa using t)
  have C5 := hid (show Ch (fun _ => False) w W5 from by rw [hW5]; exact ((Ch.refl (fun _ => False) w).alloc _).alloc _)
  clear hW5 hxb
  have t0 : W5.cell? ⟨w.heap.size, 0, none⟩ = some (.int .u8 12) := T5.out.cell 0
  have x0 : W5.cell? ⟨xb, 0, none⟩ = some (.int .u8 12) := X5.out.cell 0
  have t1 : W5.cell? ⟨w.heap.size, 1, none⟩ = some (.int .i64 sl) := T5.out.cell 1
  have x1 : W5.cell? ⟨xb, 1, none⟩ = some (.int .i64 sl) := X5.out.cell 1
  have t2 : W5.cell? ⟨w.heap.size, 2, none⟩ = some (.int .i64 0) := T5.out.cell 2
  have x2 : W5.cell? ⟨xb, 2, none⟩ = some (.int .i64 0) := X5.out.cell 2
  have t3 : W5.cell? ⟨w.heap.size, 3, none⟩ = some (.int .i64 num) := T5.out.cell 3
  have x3 : W5.cell? ⟨xb, 3, none⟩ = some (.int .i64 num) := X5.out.cell 3
  have t4 : W5.cell? ⟨w.heap.size, 4, none⟩ = some (.int .u32 0) := T5.out.cell 4
  have x4 : W5.cell? ⟨xb, 4, none⟩ = some (.int .u32 0) := X5.out.cell 4
  have t5 : W5.cell? ⟨w.heap.size, 5, none⟩ = some (.int .u8 0) := T5.out.cell 5
  have x5 : W5.cell? ⟨xb, 5, none⟩ = some (.int .u8 0) := X5.out.cell 5
  have t6 : W5.cell? ⟨w.heap.size, 6, none⟩ = some (.string ⟨#[]⟩) := T5.out.cell 6
  have x6 : W5.cell? ⟨xb, 6, none⟩ = some (.string ⟨#[]⟩) := X5.out.cell 6
  have a2 : W5.cell? ⟨g, 2, none⟩ = some (.slice (some ⟨lb, 0, none⟩) n n) := ((C5.out.blk H.out (fun e => e)).cell 2).trans (by rw [← HS.out]; rfl)
  refine Mix.wp_region_mix (fun _ => True) (fun i => ([0, 0, 0, 0, 0, 0, 0, 0, 0, 0, 0, 0, 0, 0, 0, 0, 0, 0, 0, 0, 0, 0, 0, 0, 0, 0, 0, 0, 0, 0, 0, 0] : List Nat).getD i 0) [0, 1, 2, 3, 4, 5, 6, 7, 8, 9, 10, 11, 12, 13, 14, 15, 16, 17, 18, 19, 20, 21, 22, 23, 24, 25, 26, 27, 28, 29, 30, 31] (by kernel_rfl) (by kernel_rfl) ?_
  repeat (first | (refine Mix.mix_q (by simp only [List.getElem?_toArray, List.getElem?_cons_zero, List.getElem?_cons_succ]; exact rfl) rfl ?_; go_big_quiet_step (fail); refine wpQuiet_nil ?_) | (refine Mix.mix_p (by simp only [List.getElem?_toArray, List.getElem?_cons_zero, List.getElem?_cons_succ]; exact rfl) rfl rfl ?_; go_big_quiet_step (fail); refine wpQuiet_nil ?_) | (refine Mix.mix_s (by simp only [List.getElem?_toArray, List.getElem?_cons_zero, List.getElem?_cons_succ]; exact rfl) rfl rfl ?_; go_big_quiet_step (fail); refine wpQuiet_nil ?_))
  intro k6
  go_wp2_with fail
  go_ret
  exact ⟨rfl, C5.out.drewN k6⟩
end Go.Proofs.YtjcdknhejcbpiaaGreat
namespace Go.Proofs.YtjcdknhejcbpiaaGreat
open Go.RowKit
set_option linter.unusedVariables false
set_option linter.unusedSimpArgs false
set_option linter.unusedSectionVars false
set_option maxRecDepth 100000
/-- formed, said of an operation. -/
def Formed (g : Nat) (r : Rd) (op : OpV) : Prop := ∀ W : World, Blk W g 111 r.cells → Calls Tryz.prog 93 #[.pointer (some ⟨g, 0, none⟩), op.v] W fun e w' => e = .returned (.bool true) ∧ Ch (fun _ => False) W w'
theorem fm5 (g : Nat) (r : Rd) : Formed g r ⟨5, 0, 0, 0, 0, 0, ⟨#[]⟩⟩ := fun W _ => formed_5 g W
theorem fm12 (g lb n : Nat) (r : Rd) (sl num : Int) (hs : r.sl = .slice (some ⟨lb, 0, none⟩) n n) (h1 : 0 ≤ sl) (h2 : sl < (n : Int)) (h4 : 0 ≤ num) : Formed g r ⟨12, sl, 0, num, 0, 0, ⟨#[]⟩⟩ := fun W h => formed_12 g lb n r sl num W h hs h1 h2 h4
set_option maxHeartbeats 1000000 in
theorem check_acq (g : Nat) (r : Rd) (w : World) (h : Blk w g 111 r.cells) : Calls Tryz.prog 61 #[.pointer (some ⟨g, 0, none⟩), OpV.v ⟨5, 0, 0, 0, 0, 0, ⟨#[]⟩⟩] w fun e w' => e = .returned (.int .i64 0) ∧ Ch (fun _ => False) w w' := by
  have HF := hid (fm5 g r)
  have H := hid h
  simp only [OpV.v] at HF ⊢
  clear h
  go_enter Tryz.func61, Tryz.ntmps61
  go_wp2_with fail
  refine calls_world fun W1 hW1 => ?_
  have C1 := hid (show Ch (fun _ => False) w W1 from by rw [hW1]; exact (Ch.refl _ w).alloc _)
  have T1 := hid (show Blk W1 w.heap.size 26 #[.int .u8 5, .int .i64 0, .int .i64 0, .int .i64 0, .int .u32 0, .int .u8 0, .string ⟨#[]⟩] from by rw [hW1]; exact Blk.new w _ _)
  clear hW1
  refine (HF.out W1 (C1.out.blk H.out id)).mono ?_
  rintro e w2 ⟨rfl, hc⟩
  have C2 := hid (C1.out.trans hc (fun _ _ h => h))
  have t0 : w2.cell? ⟨w.heap.size, 0, none⟩ = some (.int .u8 5) := (hc.blk T1.out id).cell 0
  clear hc
  go_wp2_with fail
  go_ret
  exact ⟨rfl, C2.out⟩
/-- An operation whose slot holds no snapshot. -/
theorem check_free (g lb n j : Nat) (r : Rd) (op : OpV) (l : List (Option Nat)) (w : World) (h : Blk w g 111 r.cells) (hs : r.sl = .slice (some ⟨lb, 0, none⟩) n n) (hl : Blk w lb 140 (pinsA l)) (hop : op.sl = (j : Int)) (hj : j < n) (hlj : l[j]? = some none) (hF : Formed g r op) (hk : op.k ≠ 5) :
    Calls Tryz.prog 61 #[.pointer (some ⟨g, 0, none⟩), op.v] w fun e w' => e = .returned (.int .i64 16) ∧ Ch (fun _ => False) w w' := by
  have HF := hid hF
  have H := hid h
  have HL := hid hl
  have HS := hid hs
  have HJ := hid hlj
  have d1 : decide (j < n) = true := decide_eq_true hj
  have d2 : decide ((j : Int) < (n : Int)) = true := decide_eq_true (by omega)
  obtain ⟨k, sl, pos, num, id', gr, s⟩ := op
  simp only at hop hk
  subst hop
  have d0 : (k == 5) = false := by rw [beq_eq_false_iff_ne]; exact hk
  simp only [OpV.v] at HF ⊢
  clear h hl hs hlj hF hk
  go_enter Tryz.func61, Tryz.ntmps61
  go_wp2_with fail
  refine calls_world fun W1 hW1 => ?_
  have C1 := hid (show Ch (fun _ => False) w W1 from by rw [hW1]; exact (Ch.refl _ w).alloc _)
  have T1 := hid (show Blk W1 w.heap.size 26 #[.int .u8 k, .int .i64 (j : Int), .int .i64 pos, .int .i64 num, .int .u32 id', .int .u8 gr, .string s] from by rw [hW1]; exact Blk.new w _ _)
  clear hW1
  refine (HF.out W1 (C1.out.blk H.out (fun e => e))).mono ?_
  rintro e w2 ⟨rfl, hc⟩
  have C2 := hid (C1.out.trans hc (fun _ _ h => h))
  have T2 := hc.blk T1.out (fun e => e)
  have t0 : w2.cell? ⟨w.heap.size, 0, none⟩ = some (.int .u8 k) := T2.cell 0
  have t1 : w2.cell? ⟨w.heap.size, 1, none⟩ = some (.int .i64 (j : Int)) := T2.cell 1
  have a2 : w2.cell? ⟨g, 2, none⟩ = some (.slice (some ⟨lb, 0, none⟩) n n) := ((C2.out.blk H.out (fun e => e)).cell 2).trans (by rw [← HS.out]; rfl)
  have lj : w2.cell? ⟨lb, j, none⟩ = some (.pointer none) := ((C2.out.blk HL.out (fun e => e)).cell j).trans (pinsA_at (o := none) HJ.out)
  clear hc T2
  go_wp2_with fail
  refine Mix.wp_region_mix (fun _ => True) (fun i => ([0, 0, 0, 0, 0, 0, 0, 0, 0] : List Nat).getD i 0) [0, 1, 2, 3, 4, 5, 6, 7, 8] (by kernel_rfl) (by kernel_rfl) ?_
  repeat (first | (refine Mix.mix_q (by simp only [List.getElem?_toArray, List.getElem?_cons_zero, List.getElem?_cons_succ]; exact rfl) rfl ?_; go_big_quiet_step (fail); refine wpQuiet_nil ?_) | (refine Mix.mix_p (by simp only [List.getElem?_toArray, List.getElem?_cons_zero, List.getElem?_cons_succ]; exact rfl) rfl rfl ?_; go_big_quiet_step (fail); refine wpQuiet_nil ?_) | (refine Mix.mix_s (by simp only [List.getElem?_toArray, List.getElem?_cons_zero, List.getElem?_cons_succ]; exact rfl) rfl rfl ?_; go_big_quiet_step (fail); refine wpQuiet_nil ?_))
  intro k3
  go_wp2_with fail
  go_ret
  exact ⟨rfl, C2.out.drewN k3⟩
/-- An operation that needs nothing but a snapshot. -/
theorem check_held (g lb n j sg : Nat) (r : Rd) (op : OpV) (l : List (Option Nat)) (x : Rv) (mv dv : Value) (ix cu : Int) (w : World) (h : Blk w g 111 r.cells) (hs : r.sl = .slice (some ⟨lb, 0, none⟩) n n) (hl : Blk w lb 140 (pinsA l)) (hop : op.sl = (j : Int)) (hj : j < n) (hlj : l[j]? = some (some sg))
    (hsg : Blk w sg 144 #[.int .i64 x.num, .int .u64 x.at', .int .i64 x.h, .int .i64 x.b, .int .i64 x.r, .int .i64 x.l, mv, dv, .int .i64 ix, .int .i64 cu]) (hF : Formed g r op) (hk : op.k = 6 ∨ op.k = 12 ∨ op.k = 13) :
    Calls Tryz.prog 61 #[.pointer (some ⟨g, 0, none⟩), op.v] w fun e w' => e = .returned (.int .i64 0) ∧ Ch (fun _ => False) w w' := by
  have HF := hid hF
  have H := hid h
  have HL := hid hl
  have HS := hid hs
  have HJ := hid hlj
  have HSG := hid hsg
  have d1 : decide (j < n) = true := decide_eq_true hj
  have d2 : decide ((j : Int) < (n : Int)) = true := decide_eq_true (by omega)
  obtain ⟨k, sl, pos, num, id', gr, s⟩ := op
  simp only at hop hk
  subst hop
  have e5 : (k == 5) = false := by rw [beq_eq_false_iff_ne]; omega
  have e7 : (k == 7) = false := by rw [beq_eq_false_iff_ne]; omega
  have e8 : (k == 8) = false := by rw [beq_eq_false_iff_ne]; omega
  have e9 : (k == 9) = false := by rw [beq_eq_false_iff_ne]; omega
  have e10 : (k == 10) = false := by rw [beq_eq_false_iff_ne]; omega
  have e11 : (k == 11) = false := by rw [beq_eq_false_iff_ne]; omega
  simp only [OpV.v] at HF ⊢
  clear h hl hs hlj hF hk hsg
  go_enter Tryz.func61, Tryz.ntmps61
  go_wp2_with fail
  refine calls_world fun W1 hW1 => ?_
  have C1 := hid (show Ch (fun _ => False) w W1 from by rw [hW1]; exact (Ch.refl _ w).alloc _)
  have T1 := hid (show Blk W1 w.heap.size 26 #[.int .u8 k, .int .i64 (j : Int), .int .i64 pos, .int .i64 num, .int .u32 id', .int .u8 gr, .string s] from by rw [hW1]; exact Blk.new w _ _)
  clear hW1
  refine (HF.out W1 (C1.out.blk H.out (fun e => e))).mono ?_
  rintro e w2 ⟨rfl, hc⟩
  have C2 := hid (C1.out.trans hc (fun _ _ h => h))
  have T2 := hid (hc.blk T1.out (fun e => e))
  have lt2 := T2.out.lt
  have t0 : w2.cell? ⟨w.heap.size, 0, none⟩ = some (.int .u8 k) := T2.out.cell 0
  have t1 : w2.cell? ⟨w.heap.size, 1, none⟩ = some (.int .i64 (j : Int)) := T2.out.cell 1
  have a2 : w2.cell? ⟨g, 2, none⟩ = some (.slice (some ⟨lb, 0, none⟩) n n) := ((C2.out.blk H.out (fun e => e)).cell 2).trans (by rw [← HS.out]; rfl)
  have lj : w2.cell? ⟨lb, j, none⟩ = some (.pointer (some ⟨sg, 0, none⟩)) := ((C2.out.blk HL.out (fun e => e)).cell j).trans (pinsA_at (o := some sg) HJ.out)
  have SG2 := hid (C2.out.blk HSG.out (fun e => e))
  have s3 : w2.cell? ⟨sg, 3, none⟩ = some (.int .i64 x.b) := SG2.out.cell 3
  have s4 : w2.cell? ⟨sg, 4, none⟩ = some (.int .i64 x.r) := SG2.out.cell 4
  have s5 : w2.cell? ⟨sg, 5, none⟩ = some (.int .i64 x.l) := SG2.out.cell 5
  clear hc
  go_wp2_with fail
  refine Mix.wp_region_mix (fun _ => True) (fun i => ([0, 0, 0, 0, 0, 0, 0, 0, 0] : List Nat).getD i 0) [0, 1, 2, 3, 4, 5, 6, 7, 8] (by kernel_rfl) (by kernel_rfl) ?_
  repeat (first | (refine Mix.mix_q (by simp only [List.getElem?_toArray, List.getElem?_cons_zero, List.getElem?_cons_succ]; exact rfl) rfl ?_; go_big_quiet_step (fail); refine wpQuiet_nil ?_) | (refine Mix.mix_p (by simp only [List.getElem?_toArray, List.getElem?_cons_zero, List.getElem?_cons_succ]; exact rfl) rfl rfl ?_; go_big_quiet_step (fail); refine wpQuiet_nil ?_) | (refine Mix.mix_s (by simp only [List.getElem?_toArray, List.getElem?_cons_zero, List.getElem?_cons_succ]; exact rfl) rfl rfl ?_; go_big_quiet_step (fail); refine wpQuiet_nil ?_))
  intro k3
  refine at_world fun W3 hW3 => ?_
  have C3 := hid (show Ch (fun _ => False) w W3 from by rw [hW3]; exact C2.out.drewN k3)
  have T3 := hid (show Blk W3 w.heap.size 26 #[.int .u8 k, .int .i64 (j : Int), .int .i64 pos, .int .i64 num, .int .u32 id', .int .u8 gr, .string s] from by rw [hW3]; exact T2.out.drewN k3)
  clear hW3 t0 t1 a2 lj s3 s4 s5 lt2
  have SG3 := hid (C3.out.blk HSG.out (fun e => e))
  have lt3 := T3.out.lt
  have t0 : W3.cell? ⟨w.heap.size, 0, none⟩ = some (.int .u8 k) := T3.out.cell 0
  have s3 : W3.cell? ⟨sg, 3, none⟩ = some (.int .i64 x.b) := SG3.out.cell 3
  have s4 : W3.cell? ⟨sg, 4, none⟩ = some (.int .i64 x.r) := SG3.out.cell 4
  have s5 : W3.cell? ⟨sg, 5, none⟩ = some (.int .i64 x.l) := SG3.out.cell 5
  go_wp2_with fail
  go_ret
  exact ⟨rfl, C3.out.alloc _⟩
end Go.Proofs.YtjcdknhejcbpiaaGreat
namespace Go.Proofs.YtjcdknhejcbpiaaGreat
open Go.RowKit
set_option linter.unusedVariables false
set_option linter.unusedSimpArgs false
set_option linter.unusedSectionVars false
set_option maxRecDepth 100000
def closedF (g : Nat) : Value := .func (.func 64) #[.pointer (some ⟨g, 0, none⟩)] #[]
def releaseF (g : Nat) : Value := .func (.func 68) #[.pointer (some ⟨g, 0, none⟩)] #[]
def OpV.arr (x : OpV) : Array Value := #[.int .u8 x.k, .int .i64 x.sl, .int .i64 x.at', .int .i64 x.n, .int .u32 x.id, .int .u8 x.g, .string x.s]
set_option maxHeartbeats 2000000 in
theorem start_acq (g : Nat) (r : Rd) (w : World) (h : Blk w g 111 r.cells) (hop : r.op = ⟨5, 0, 0, 0, 0, 0, ⟨#[]⟩⟩) :
    Calls Tryz.prog 38 #[.pointer (some ⟨g, 0, none⟩)] w (RdSet g { r with ph := 2, dv := closedF g } w (.tuple #[])) := by
  have H := hid h
  have hc := h.cell
  have lg := h.lt
  have o3 : w.cell? ⟨g, 3, none⟩ = some (.int .u8 5) := (hc 3).trans (by simp [Rd.cells, hop])
  have o4 : w.cell? ⟨g, 4, none⟩ = some (.int .i64 0) := (hc 4).trans (by simp [Rd.cells, hop])
  have o5 : w.cell? ⟨g, 5, none⟩ = some (.int .i64 0) := (hc 5).trans (by simp [Rd.cells, hop])
  have o6 : w.cell? ⟨g, 6, none⟩ = some (.int .i64 0) := (hc 6).trans (by simp [Rd.cells, hop])
  have o7 : w.cell? ⟨g, 7, none⟩ = some (.int .u32 0) := (hc 7).trans (by simp [Rd.cells, hop])
  have o8 : w.cell? ⟨g, 8, none⟩ = some (.int .u8 0) := (hc 8).trans (by simp [Rd.cells, hop])
  have o9 : w.cell? ⟨g, 9, none⟩ = some (.string ⟨#[]⟩) := (hc 9).trans (by simp [Rd.cells, hop])
  clear h hc hop
  go_enter Tryz.func38, Tryz.ntmps38
  go_wp2_with fail
  refine calls_world fun W1 hW1 => ?_
  have C1 := hid (show Ch (fun _ => False) w W1 from by rw [hW1]; exact ((Ch.refl _ w).alloc _).alloc _)
  have R1 := hid (show Blk W1 w.heap.size 45 #[.pointer (some ⟨g, 0, none⟩)] from by rw [hW1]; exact (Blk.new w _ _).alloc _)
  obtain ⟨ob, hob⟩ : ∃ x, x = w.heap.size + 1 := ⟨_, rfl⟩
  have T1 := hid (show Blk W1 ob 26 #[.int .u8 5, .int .i64 0, .int .i64 0, .int .i64 0, .int .u32 0, .int .u8 0, .string ⟨#[]⟩] from by rw [hW1, hob]; have t := Blk.new (w.alloc (.cells #[.pointer (some ⟨g, 0, none⟩)] 45)) 26 #[.int .u8 5, .int .i64 0, .int .i64 0, .int .i64 0, .int .u32 0, .int .u8 0, .string ⟨#[]⟩]; simpa using t)
  rw [← hob]
  clear hW1 hob o3 o4 o5 o6 o7 o8 o9
  refine (check_acq g r W1 (C1.out.blk H.out id)).mono ?_
  rintro e w2 ⟨rfl, hc⟩
  have C2 := hid (C1.out.trans hc (fun _ _ h => h))
  have r0 : w2.cell? ⟨w.heap.size, 0, none⟩ = some (.pointer (some ⟨g, 0, none⟩)) := (hc.blk R1.out id).cell 0
  have t0 : w2.cell? ⟨ob, 0, none⟩ = some (.int .u8 5) := (hc.blk T1.out id).cell 0
  clear hc
  go_wp2_with fail
  refine (rthen_any g r 2 _ _ _ w2 (C2.out.blk H.out id)).mono ?_
  rintro e w3 ⟨rfl, hb, hc⟩
  go_wp2_with fail
  go_end0
  exact ⟨rfl, hb, (C2.out.mono (fun _ _ e => e.elim)).trans hc (fun _ _ h => h)⟩
set_option maxHeartbeats 2000000 in
theorem start_bad (g : Nat) (r : Rd) (er : Int) (w : World) (h : Blk w g 111 r.cells) (he : er ≠ 0) (hck : ∀ W, Ch (fun _ => False) w W → Calls Tryz.prog 61 #[.pointer (some ⟨g, 0, none⟩), r.op.v] W fun e w' => e = .returned (.int .i64 er) ∧ Ch (fun _ => False) W w') :
    Calls Tryz.prog 38 #[.pointer (some ⟨g, 0, none⟩)] w fun e w' => ∃ rb xb, RdSet g { r with ph := 1, dv := locV rb xb } w (.tuple #[]) e w' ∧ Blk w' rb 45 #[.pointer (some ⟨g, 0, none⟩)] ∧ Blk w' xb 41 (RsV.arr { RsV.zero with er := er }) ∧ w.heap.size ≤ rb ∧ rb < xb := by
  have H := hid h
  have HCK := hid hck
  have hc := h.cell
  have lg := h.lt
  have d1 : (er != 0) = true := by rw [bne_iff_ne]; exact he
  have o3 : w.cell? ⟨g, 3, none⟩ = some (.int .u8 r.op.k) := hc 3
  have o4 : w.cell? ⟨g, 4, none⟩ = some (.int .i64 r.op.sl) := hc 4
  have o5 : w.cell? ⟨g, 5, none⟩ = some (.int .i64 r.op.at') := hc 5
  have o6 : w.cell? ⟨g, 6, none⟩ = some (.int .i64 r.op.n) := hc 6
  have o7 : w.cell? ⟨g, 7, none⟩ = some (.int .u32 r.op.id) := hc 7
  have o8 : w.cell? ⟨g, 8, none⟩ = some (.int .u8 r.op.g) := hc 8
  have o9 : w.cell? ⟨g, 9, none⟩ = some (.string r.op.s) := hc 9
  clear h hc hck he
  go_enter Tryz.func38, Tryz.ntmps38
  go_wp2_with fail
  refine calls_world fun W1 hW1 => ?_
  have C1 := hid (show Ch (fun _ => False) w W1 from by rw [hW1]; exact ((Ch.refl _ w).alloc _).alloc _)
  have R1 := hid (show Blk W1 w.heap.size 45 #[.pointer (some ⟨g, 0, none⟩)] from by rw [hW1]; exact (Blk.new w _ _).alloc _)
  clear hW1 o3 o4 o5 o6 o7 o8 o9
  refine (HCK.out W1 C1.out).mono ?_
  rintro e w2 ⟨rfl, hc⟩
  have C2 := hid (C1.out.trans hc (fun _ _ h => h))
  have r0 : w2.cell? ⟨w.heap.size, 0, none⟩ = some (.pointer (some ⟨g, 0, none⟩)) := (hc.blk R1.out id).cell 0
  clear hc
  go_wp2_with fail
  refine (rlocal_any g r { RsV.zero with er := er } w2 (C2.out.blk H.out id)).mono ?_
  rintro e w3 ⟨rb, xb, ⟨rfl, hb, hc⟩, h1, h2, h3, h4⟩
  go_wp2_with fail
  (try simp only [Exit.inBlock, Exit.then]); refine bodyPost_ret (results_none rfl _ _ _) rfl ?_
  exact ⟨rb, xb, ⟨rfl, hb, (C2.out.mono (fun _ _ e => e.elim)).trans hc (fun _ _ h => h)⟩, h1, h2, Nat.le_trans C2.out.size h3, h4⟩
set_option maxHeartbeats 4000000 in
theorem rbegin_any (g : Nat) (r : Rd) (op : OpV) (w : World) (h : Blk w g 111 r.cells) (hb : r.busy = false) (h5 : 5 ≤ op.k) (h13 : op.k ≤ 13) (Q : World → World → Prop)
    (hst : ∀ W, Blk W g 111 (Rd.cells { r with op := op, busy := true, done := false }) → Ch (fun b => b = g) w W → Calls Tryz.prog 38 #[.pointer (some ⟨g, 0, none⟩)] W fun e w' => e = .returned (.tuple #[]) ∧ Q W w') :
    Calls Tryz.prog 13 #[.pointer (some ⟨g, 0, none⟩), op.v] w fun e w' => e = .returned (.int .i64 0) ∧ ∃ W, Ch (fun b => b = g) w W ∧ Q W w' := by
  have H := hid h
  have HST := hid hst
  have lg := h.lt
  have d5 : decide (op.k < 5) = false := decide_eq_false (by omega)
  have d13 : decide (13 < op.k) = false := decide_eq_false (by omega)
  obtain ⟨k, sl, pos, num, id', gr, s⟩ := op
  simp only at d5 d13
  simp only [OpV.v]
  have c10 : w.cell? ⟨g, 10, none⟩ = some (.bool false) := (h.cell 10).trans (by rw [← hb]; rfl)
  have c3 : w.cell? ⟨g, 3, none⟩ = some (.int .u8 r.op.k) := h.cell 3
  have c4 : w.cell? ⟨g, 4, none⟩ = some (.int .i64 r.op.sl) := h.cell 4
  have c5 : w.cell? ⟨g, 5, none⟩ = some (.int .i64 r.op.at') := h.cell 5
  have c6 : w.cell? ⟨g, 6, none⟩ = some (.int .i64 r.op.n) := h.cell 6
  have c7 : w.cell? ⟨g, 7, none⟩ = some (.int .u32 r.op.id) := h.cell 7
  have c8 : w.cell? ⟨g, 8, none⟩ = some (.int .u8 r.op.g) := h.cell 8
  have c9 : w.cell? ⟨g, 9, none⟩ = some (.string r.op.s) := h.cell 9
  have c13 : w.cell? ⟨g, 13, none⟩ = some (.bool r.done) := h.cell 13
  have f3 := h.free 3
  have f4 := h.free 4
  have f5 := h.free 5
  have f6 := h.free 6
  have f7 := h.free 7
  have f8 := h.free 8
  have f9 := h.free 9
  have f10 := h.free 10
  have f13 := h.free 13
  clear h hst hb h5 h13
  go_enter Tryz.func13, Tryz.ntmps13
  go_wp2_with fail
  refine calls_world fun W1 hW1 => ?_
  have B1 := hid (show Blk W1 g 111 (Rd.cells { r with op := ⟨k, sl, pos, num, id', gr, s⟩, busy := true, done := false }) from by
    rw [hW1]
    exact Blk.as ((((((((((H.out.put 3 _).put 4 _).put 5 _).put 6 _).put 7 _).put 8 _).put 9 _).put 10 _).put 13 _).alloc _) (by kernel_rfl))
  have C1 := hid (show Ch (fun b => b = g) w W1 from by
    rw [hW1]
    exact ((((((((((Ch.refl (fun b => b = g) w).set (fun _ => rfl) _).set (fun _ => rfl) _).set (fun _ => rfl) _).set (fun _ => rfl) _).set (fun _ => rfl) _).set (fun _ => rfl) _).set (fun _ => rfl) _).set (fun _ => rfl) _).set (fun _ => rfl) _).alloc _)
  clear hW1 c3 c4 c5 c6 c7 c8 c9 c10 c13 f3 f4 f5 f6 f7 f8 f9 f10 f13
  refine (HST.out W1 B1.out C1.out).mono ?_
  rintro e w2 ⟨rfl, hq⟩
  have HQ := hid hq
  clear hq
  go_wp2_with fail
  go_ret
  exact ⟨rfl, W1, C1.out, HQ.out⟩
end Go.Proofs.YtjcdknhejcbpiaaGreat
