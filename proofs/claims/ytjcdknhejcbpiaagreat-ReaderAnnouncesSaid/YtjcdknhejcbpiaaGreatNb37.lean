/- Lemmas that the proof of the last text leans on; no condition. -/
import Derived.Test.YtjcdknhejcbpiaaGreatNb35
import Derived.Laws.StructEq
import Derived.Test.YtjcdknhejcbpiaaGreatNb36
import Derived.Test.YtjcdknhejcbpiaaGreatNb27
import Derived.Test.YtjcdknhejcbpiaaGreatNb34
import Derived.Test.YtjcdknhejcbpiaaGreatNb10
import Derived.Test.YtjcdknhejcbpiaaGreatNb18
namespace Go.Proofs.YtjcdknhejcbpiaaGreat
open Go.RowKit
set_option linter.unusedVariables false
set_option linter.unusedSimpArgs false
set_option linter.unusedSectionVars false
set_option maxRecDepth 100000
set_option maxHeartbeats 1000000 in
theorem formed_5 (g : Nat) (w : World) : Calls Tryz.prog 93 #[.pointer (some ⟨g, 0, none⟩), .agg #[.int .u8 5, .int .i64 0, .int .i64 0, .int .i64 0, .int .u32 0, .int .u8 0, .string ⟨#[]⟩]] w fun e w' => e = .returned (.bool true) ∧ Ch (fun _ => False) w w' := by
  go_enter Tryz.func93, Tryz.ntmps93
  go_wp2_with fail
  go_ret
  exact ⟨rfl, ((Ch.refl _ w).alloc _).alloc _⟩
set_option maxHeartbeats 2000000 in
theorem formed_6 (g lb n : Nat) (r : Rd) (sl : Int) (w : World) (h : Blk w g 111 r.cells) (hs : r.sl = .slice (some ⟨lb, 0, none⟩) n n) (h1 : 0 ≤ sl) (h2 : sl < (n : Int)) :
    Calls Tryz.prog 93 #[.pointer (some ⟨g, 0, none⟩), .agg #[.int .u8 6, .int .i64 sl, .int .i64 0, .int .i64 0, .int .u32 0, .int .u8 0, .string ⟨#[]⟩]] w fun e w' => e = .returned (.bool true) ∧ Ch (fun _ => False) w w' := by
  have d1 : decide (0 ≤ sl) = true := decide_eq_true h1
  have d2 : decide (sl < (n : Int)) = true := decide_eq_true h2
  have H := hid h
  have HS := hid hs
  have lg := h.lt
  clear h hs h1 h2
  go_enter Tryz.func93, Tryz.ntmps93
  go_wp2_with fail
  obtain ⟨xb, hxb⟩ : ∃ x, x = w.heap.size + 1 := ⟨_, rfl⟩
  rw [← hxb]
  have nx : w.heap.size ≠ xb := by omega
  have nx2 : xb ≠ w.heap.size := Ne.symm nx
  refine at_world fun W5 hW5 => ?_
  have T5 := hid (show Blk W5 w.heap.size 26 #[.int .u8 6, .int .i64 sl, .int .i64 0, .int .i64 0, .int .u32 0, .int .u8 0, .string ⟨#[]⟩] from by
    rw [hW5]
    exact (Blk.new w 26 #[.int .u8 6, .int .i64 sl, .int .i64 0, .int .i64 0, .int .u32 0, .int .u8 0, .string ⟨#[]⟩]).alloc _)
  have X5 := hid (show Blk W5 xb 26 #[.int .u8 6, .int .i64 sl, .int .i64 0, .int .i64 0, .int .u32 0, .int .u8 0, .string ⟨#[]⟩] from by
    rw [hW5]
    rw [hxb]
    have t := Blk.new (w.alloc (.cells #[.int .u8 6, .int .i64 sl, .int .i64 0, .int .i64 0, .int .u32 0, .int .u8 0, .string ⟨#[]⟩] 26)) 26 #[.int .u8 6, .int .i64 sl, .int .i64 0, .int .i64 0, .int .u32 0, .int .u8 0, .string ⟨#[]⟩]
    simpa using t)
  have C5 := hid (show Ch (fun _ => False) w W5 from by rw [hW5]; exact ((Ch.refl (fun _ => False) w).alloc _).alloc _)
  clear hW5 hxb
  have t0 : W5.cell? ⟨w.heap.size, 0, none⟩ = some (.int .u8 6) := T5.out.cell 0
  have x0 : W5.cell? ⟨xb, 0, none⟩ = some (.int .u8 6) := X5.out.cell 0
  have t1 : W5.cell? ⟨w.heap.size, 1, none⟩ = some (.int .i64 sl) := T5.out.cell 1
  have x1 : W5.cell? ⟨xb, 1, none⟩ = some (.int .i64 sl) := X5.out.cell 1
  have t2 : W5.cell? ⟨w.heap.size, 2, none⟩ = some (.int .i64 0) := T5.out.cell 2
  have x2 : W5.cell? ⟨xb, 2, none⟩ = some (.int .i64 0) := X5.out.cell 2
  have t3 : W5.cell? ⟨w.heap.size, 3, none⟩ = some (.int .i64 0) := T5.out.cell 3
  have x3 : W5.cell? ⟨xb, 3, none⟩ = some (.int .i64 0) := X5.out.cell 3
  have t4 : W5.cell? ⟨w.heap.size, 4, none⟩ = some (.int .u32 0) := T5.out.cell 4
  have x4 : W5.cell? ⟨xb, 4, none⟩ = some (.int .u32 0) := X5.out.cell 4
  have t5 : W5.cell? ⟨w.heap.size, 5, none⟩ = some (.int .u8 0) := T5.out.cell 5
  have x5 : W5.cell? ⟨xb, 5, none⟩ = some (.int .u8 0) := X5.out.cell 5
  have t6 : W5.cell? ⟨w.heap.size, 6, none⟩ = some (.string ⟨#[]⟩) := T5.out.cell 6
  have x6 : W5.cell? ⟨xb, 6, none⟩ = some (.string ⟨#[]⟩) := X5.out.cell 6
  have a2 : W5.cell? ⟨g, 2, none⟩ = some (.slice (some ⟨lb, 0, none⟩) n n) := ((C5.out.blk H.out (fun e => e)).cell 2).trans (by rw [← HS.out]; rfl)
  refine Mix.wp_region_mix (fun _ => True) (fun i => ([0, 0, 0, 0, 0, 0, 0, 0, 0, 0, 0, 0, 0, 0, 0, 0, 0, 0, 0, 0, 0, 0, 0, 0, 0, 0, 0, 0, 0, 0, 0, 0] : List Nat).getD i 0) [0, 1, 2, 3, 4, 5, 6, 7, 8, 9, 10, 11, 12, 13, 14, 15, 16, 17, 18, 19, 20, 21, 22, 23, 24, 25, 26, 27, 28, 29, 30, 31] (by kernel_rfl) (by kernel_rfl) ?_
  repeat (first | (refine Mix.mix_q (by simp only [List.getElem?_toArray, List.getElem?_cons_zero, List.getElem?_cons_succ]; exact rfl) rfl ?_; go_big_quiet_step (fail); refine wpQuiet_nil ?_) | (refine Mix.mix_p (by simp only [List.getElem?_toArray, List.getElem?_cons_zero, List.getElem?_cons_succ]; exact rfl) rfl rfl ?_; go_big_quiet_step (fail); refine wpQuiet_nil ?_) | (refine Mix.mix_s (by simp only [List.getElem?_toArray, List.getElem?_cons_zero, List.getElem?_cons_succ]; exact rfl) rfl rfl ?_; go_big_quiet_step (fail); refine wpQuiet_nil ?_))
  intro k6
  go_wp2_with fail
  go_ret
  exact ⟨rfl, C5.out.drewN k6⟩
set_option maxHeartbeats 2000000 in
theorem formed_13 (g lb n : Nat) (r : Rd) (sl : Int) (w : World) (h : Blk w g 111 r.cells) (hs : r.sl = .slice (some ⟨lb, 0, none⟩) n n) (h1 : 0 ≤ sl) (h2 : sl < (n : Int)) :
    Calls Tryz.prog 93 #[.pointer (some ⟨g, 0, none⟩), .agg #[.int .u8 13, .int .i64 sl, .int .i64 0, .int .i64 0, .int .u32 0, .int .u8 0, .string ⟨#[]⟩]] w fun e w' => e = .returned (.bool true) ∧ Ch (fun _ => False) w w' := by
  have d1 : decide (0 ≤ sl) = true := decide_eq_true h1
  have d2 : decide (sl < (n : Int)) = true := decide_eq_true h2
  have H := hid h
  have HS := hid hs
  have lg := h.lt
  clear h hs h1 h2
  go_enter Tryz.func93, Tryz.ntmps93
  go_wp2_with fail
  obtain ⟨xb, hxb⟩ : ∃ x, x = w.heap.size + 1 := ⟨_, rfl⟩
  rw [← hxb]
  have nx : w.heap.size ≠ xb := by omega
  have nx2 : xb ≠ w.heap.size := Ne.symm nx
  refine at_world fun W5 hW5 => ?_
  have T5 := hid (show Blk W5 w.heap.size 26 #[.int .u8 13, .int .i64 sl, .int .i64 0, .int .i64 0, .int .u32 0, .int .u8 0, .string ⟨#[]⟩] from by
    rw [hW5]
    exact (Blk.new w 26 #[.int .u8 13, .int .i64 sl, .int .i64 0, .int .i64 0, .int .u32 0, .int .u8 0, .string ⟨#[]⟩]).alloc _)
  have X5 := hid (show Blk W5 xb 26 #[.int .u8 13, .int .i64 sl, .int .i64 0, .int .i64 0, .int .u32 0, .int .u8 0, .string ⟨#[]⟩] from by
    rw [hW5]
    rw [hxb]
    have t := Blk.new (w.alloc (.cells #[.int .u8 13, .int .i64 sl, .int .i64 0, .int .i64 0, .int .u32 0, .int .u8 0, .string ⟨#[]⟩] 26)) 26 #[.int .u8 13, .int .i64 sl, .int .i64 0, .int .i64 0, .int .u32 0, .int .u8 0, .string ⟨#[]⟩]
    simpa using t)
  have C5 := hid (show Ch (fun _ => False) w W5 from by rw [hW5]; exact ((Ch.refl (fun _ => False) w).alloc _).alloc _)
  clear hW5 hxb
  have t0 : W5.cell? ⟨w.heap.size, 0, none⟩ = some (.int .u8 13) := T5.out.cell 0
  have x0 : W5.cell? ⟨xb, 0, none⟩ = some (.int .u8 13) := X5.out.cell 0
  have t1 : W5.cell? ⟨w.heap.size, 1, none⟩ = some (.int .i64 sl) := T5.out.cell 1
  have x1 : W5.cell? ⟨xb, 1, none⟩ = some (.int .i64 sl) := X5.out.cell 1
  have t2 : W5.cell? ⟨w.heap.size, 2, none⟩ = some (.int .i64 0) := T5.out.cell 2
  have x2 : W5.cell? ⟨xb, 2, none⟩ = some (.int .i64 0) := X5.out.cell 2
  have t3 : W5.cell? ⟨w.heap.size, 3, none⟩ = some (.int .i64 0) := T5.out.cell 3
  have x3 : W5.cell? ⟨xb, 3, none⟩ = some (.int .i64 0) := X5.out.cell 3
  have t4 : W5.cell? ⟨w.heap.size, 4, none⟩ = some (.int .u32 0) := T5.out.cell 4
  have x4 : W5.cell? ⟨xb, 4, none⟩ = some (.int .u32 0) := X5.out.cell 4
  have t5 : W5.cell? ⟨w.heap.size, 5, none⟩ = some (.int .u8 0) := T5.out.cell 5
  have x5 : W5.cell? ⟨xb, 5, none⟩ = some (.int .u8 0) := X5.out.cell 5
  have t6 : W5.cell? ⟨w.heap.size, 6, none⟩ = some (.string ⟨#[]⟩) := T5.out.cell 6
  have x6 : W5.cell? ⟨xb, 6, none⟩ = some (.string ⟨#[]⟩) := X5.out.cell 6
  have a2 : W5.cell? ⟨g, 2, none⟩ = some (.slice (some ⟨lb, 0, none⟩) n n) := ((C5.out.blk H.out (fun e => e)).cell 2).trans (by rw [← HS.out]; rfl)
  refine Mix.wp_region_mix (fun _ => True) (fun i => ([0, 0, 0, 0, 0, 0, 0, 0, 0, 0, 0, 0, 0, 0, 0, 0, 0, 0, 0, 0, 0, 0, 0, 0, 0, 0, 0, 0, 0, 0, 0, 0] : List Nat).getD i 0) [0, 1, 2, 3, 4, 5, 6, 7, 8, 9, 10, 11, 12, 13, 14, 15, 16, 17, 18, 19, 20, 21, 22, 23, 24, 25, 26, 27, 28, 29, 30, 31] (by kernel_rfl) (by kernel_rfl) ?_
  repeat (first | (refine Mix.mix_q (by simp only [List.getElem?_toArray, List.getElem?_cons_zero, List.getElem?_cons_succ]; exact rfl) rfl ?_; go_big_quiet_step (fail); refine wpQuiet_nil ?_) | (refine Mix.mix_p (by simp only [List.getElem?_toArray, List.getElem?_cons_zero, List.getElem?_cons_succ]; exact rfl) rfl rfl ?_; go_big_quiet_step (fail); refine wpQuiet_nil ?_) | (refine Mix.mix_s (by simp only [List.getElem?_toArray, List.getElem?_cons_zero, List.getElem?_cons_succ]; exact rfl) rfl rfl ?_; go_big_quiet_step (fail); refine wpQuiet_nil ?_))
  intro k6
  go_wp2_with fail
  go_ret
  exact ⟨rfl, C5.out.drewN k6⟩
set_option maxRecDepth 100000
def Formed (g : Nat) (r : Rd) (op : OpV) : Prop := ∀ W : World, Blk W g 111 r.cells → Calls Tryz.prog 93 #[.pointer (some ⟨g, 0, none⟩), op.v] W fun e w' => e = .returned (.bool true) ∧ Ch (fun _ => False) W w'
theorem fm5 (g : Nat) (r : Rd) : Formed g r ⟨5, 0, 0, 0, 0, 0, ⟨#[]⟩⟩ := fun W _ => formed_5 g W
theorem fm13 (g lb n : Nat) (r : Rd) (sl : Int) (hs : r.sl = .slice (some ⟨lb, 0, none⟩) n n) (h1 : 0 ≤ sl) (h2 : sl < (n : Int)) : Formed g r ⟨13, sl, 0, 0, 0, 0, ⟨#[]⟩⟩ := fun W h => formed_13 g lb n r sl W h hs h1 h2
set_option maxHeartbeats 1000000 in
theorem check_acq (g : Nat) (r : Rd) (w : World) (h : Blk w g 111 r.cells) : Calls Tryz.prog 61 #[.pointer (some ⟨g, 0, none⟩), OpV.v ⟨5, 0, 0, 0, 0, 0, ⟨#[]⟩⟩] w fun e w' => e = .returned (.int .i64 0) ∧ Ch (fun _ => False) w w' := by
  have HF := hid (fm5 g r)
  have H := hid h
  simp only [OpV.v] at HF ⊢
  clear h
  go_enter Tryz.func61, Tryz.ntmps61
  go_wp2_with fail
  refine calls_world fun W1 hW1 => ?_
  have C1 := hid (show Ch (fun _ => False) w W1 from by rw [hW1]; exact (Ch.refl _ w).alloc _)
  have T1 := hid (show Blk W1 w.heap.size 26 #[.int .u8 5, .int .i64 0, .int .i64 0, .int .i64 0, .int .u32 0, .int .u8 0, .string ⟨#[]⟩] from by rw [hW1]; exact Blk.new w _ _)
  clear hW1
  refine (HF.out W1 (C1.out.blk H.out id)).mono ?_
  rintro e w2 ⟨rfl, hc⟩
  have C2 := hid (C1.out.trans hc (fun _ _ h => h))
  have t0 : w2.cell? ⟨w.heap.size, 0, none⟩ = some (.int .u8 5) := (hc.blk T1.out id).cell 0
  clear hc
  go_wp2_with fail
  go_ret
  exact ⟨rfl, C2.out⟩
theorem check_free (g lb n j : Nat) (r : Rd) (op : OpV) (l : List (Option Nat)) (w : World) (h : Blk w g 111 r.cells) (hs : r.sl = .slice (some ⟨lb, 0, none⟩) n n) (hl : Blk w lb 140 (pinsA l)) (hop : op.sl = (j : Int)) (hj : j < n) (hlj : l[j]? = some none) (hF : Formed g r op) (hk : op.k ≠ 5) :
    Calls Tryz.prog 61 #[.pointer (some ⟨g, 0, none⟩), op.v] w fun e w' => e = .returned (.int .i64 16) ∧ Ch (fun _ => False) w w' := by
  have HF := hid hF
  have H := hid h
  have HL := hid hl
  have HS := hid hs
  have HJ := hid hlj
  have d1 : decide (j < n) = true := decide_eq_true hj
  have d2 : decide ((j : Int) < (n : Int)) = true := decide_eq_true (by omega)
  obtain ⟨k, sl, pos, num, id', gr, s⟩ := op
  simp only at hop hk
  subst hop
  have d0 : (k == 5) = false := by rw [beq_eq_false_iff_ne]; exact hk
  simp only [OpV.v] at HF ⊢
  clear h hl hs hlj hF hk
  go_enter Tryz.func61, Tryz.ntmps61
  go_wp2_with fail
  refine calls_world fun W1 hW1 => ?_
  have C1 := hid (show Ch (fun _ => False) w W1 from by rw [hW1]; exact (Ch.refl _ w).alloc _)
  have T1 := hid (show Blk W1 w.heap.size 26 #[.int .u8 k, .int .i64 (j : Int), .int .i64 pos, .int .i64 num, .int .u32 id', .int .u8 gr, .string s] from by rw [hW1]; exact Blk.new w _ _)
  clear hW1
  refine (HF.out W1 (C1.out.blk H.out (fun e => e))).mono ?_
  rintro e w2 ⟨rfl, hc⟩
  have C2 := hid (C1.out.trans hc (fun _ _ h => h))
  have T2 := hc.blk T1.out (fun e => e)
  have t0 : w2.cell? ⟨w.heap.size, 0, none⟩ = some (.int .u8 k) := T2.cell 0
  have t1 : w2.cell? ⟨w.heap.size, 1, none⟩ = some (.int .i64 (j : Int)) := T2.cell 1
  have a2 : w2.cell? ⟨g, 2, none⟩ = some (.slice (some ⟨lb, 0, none⟩) n n) := ((C2.out.blk H.out (fun e => e)).cell 2).trans (by rw [← HS.out]; rfl)
  have lj : w2.cell? ⟨lb, j, none⟩ = some (.pointer none) := ((C2.out.blk HL.out (fun e => e)).cell j).trans (pinsA_at (o := none) HJ.out)
  clear hc T2
  go_wp2_with fail
  refine Mix.wp_region_mix (fun _ => True) (fun i => ([0, 0, 0, 0, 0, 0, 0, 0, 0] : List Nat).getD i 0) [0, 1, 2, 3, 4, 5, 6, 7, 8] (by kernel_rfl) (by kernel_rfl) ?_
  repeat (first | (refine Mix.mix_q (by simp only [List.getElem?_toArray, List.getElem?_cons_zero, List.getElem?_cons_succ]; exact rfl) rfl ?_; go_big_quiet_step (fail); refine wpQuiet_nil ?_) | (refine Mix.mix_p (by simp only [List.getElem?_toArray, List.getElem?_cons_zero, List.getElem?_cons_succ]; exact rfl) rfl rfl ?_; go_big_quiet_step (fail); refine wpQuiet_nil ?_) | (refine Mix.mix_s (by simp only [List.getElem?_toArray, List.getElem?_cons_zero, List.getElem?_cons_succ]; exact rfl) rfl rfl ?_; go_big_quiet_step (fail); refine wpQuiet_nil ?_))
  intro k3
  go_wp2_with fail
  go_ret
  exact ⟨rfl, C2.out.drewN k3⟩
theorem check_held (g lb n j sg : Nat) (r : Rd) (op : OpV) (l : List (Option Nat)) (x : Rv) (mv dv : Value) (ix cu : Int) (w : World) (h : Blk w g 111 r.cells) (hs : r.sl = .slice (some ⟨lb, 0, none⟩) n n) (hl : Blk w lb 140 (pinsA l)) (hop : op.sl = (j : Int)) (hj : j < n) (hlj : l[j]? = some (some sg))
    (hsg : Blk w sg 144 #[.int .i64 x.num, .int .u64 x.at', .int .i64 x.h, .int .i64 x.b, .int .i64 x.r, .int .i64 x.l, mv, dv, .int .i64 ix, .int .i64 cu]) (hF : Formed g r op) (hk : op.k = 6 ∨ op.k = 12 ∨ op.k = 13) :
    Calls Tryz.prog 61 #[.pointer (some ⟨g, 0, none⟩), op.v] w fun e w' => e = .returned (.int .i64 0) ∧ Ch (fun _ => False) w w' := by
  have HF := hid hF
  have H := hid h
  have HL := hid hl
  have HS := hid hs
  have HJ := hid hlj
  have HSG := hid hsg
  have d1 : decide (j < n) = true := decide_eq_true hj
  have d2 : decide ((j : Int) < (n : Int)) = true := decide_eq_true (by omega)
  obtain ⟨k, sl, pos, num, id', gr, s⟩ := op
  simp only at hop hk
  subst hop
  have e5 : (k == 5) = false := by rw [beq_eq_false_iff_ne]; omega
  have e7 : (k == 7) = false := by rw [beq_eq_false_iff_ne]; omega
  have e8 : (k == 8) = false := by rw [beq_eq_false_iff_ne]; omega
  have e9 : (k == 9) = false := by rw [beq_eq_false_iff_ne]; omega
  have e10 : (k == 10) = false := by rw [beq_eq_false_iff_ne]; omega
  have e11 : (k == 11) = false := by rw [beq_eq_false_iff_ne]; omega
  simp only [OpV.v] at HF ⊢
  clear h hl hs hlj hF hk hsg
  go_enter Tryz.func61, Tryz.ntmps61
  go_wp2_with fail
  refine calls_world fun W1 hW1 => ?_
  have C1 := hid (show Ch (fun _ => False) w W1 from by rw [hW1]; exact (Ch.refl _ w).alloc _)
  have T1 := hid (show Blk W1 w.heap.size 26 #[.int .u8 k, .int .i64 (j : Int), .int .i64 pos, .int .i64 num, .int .u32 id', .int .u8 gr, .string s] from by rw [hW1]; exact Blk.new w _ _)
  clear hW1
  refine (HF.out W1 (C1.out.blk H.out (fun e => e))).mono ?_
  rintro e w2 ⟨rfl, hc⟩
  have C2 := hid (C1.out.trans hc (fun _ _ h => h))
  have T2 := hid (hc.blk T1.out (fun e => e))
  have lt2 := T2.out.lt
  have t0 : w2.cell? ⟨w.heap.size, 0, none⟩ = some (.int .u8 k) := T2.out.cell 0
  have t1 : w2.cell? ⟨w.heap.size, 1, none⟩ = some (.int .i64 (j : Int)) := T2.out.cell 1
  have a2 : w2.cell? ⟨g, 2, none⟩ = some (.slice (some ⟨lb, 0, none⟩) n n) := ((C2.out.blk H.out (fun e => e)).cell 2).trans (by rw [← HS.out]; rfl)
  have lj : w2.cell? ⟨lb, j, none⟩ = some (.pointer (some ⟨sg, 0, none⟩)) := ((C2.out.blk HL.out (fun e => e)).cell j).trans (pinsA_at (o := some sg) HJ.out)
  have SG2 := hid (C2.out.blk HSG.out (fun e => e))
  have s3 : w2.cell? ⟨sg, 3, none⟩ = some (.int .i64 x.b) := SG2.out.cell 3
  have s4 : w2.cell? ⟨sg, 4, none⟩ = some (.int .i64 x.r) := SG2.out.cell 4
  have s5 : w2.cell? ⟨sg, 5, none⟩ = some (.int .i64 x.l) := SG2.out.cell 5
  clear hc
  go_wp2_with fail
  refine Mix.wp_region_mix (fun _ => True) (fun i => ([0, 0, 0, 0, 0, 0, 0, 0, 0] : List Nat).getD i 0) [0, 1, 2, 3, 4, 5, 6, 7, 8] (by kernel_rfl) (by kernel_rfl) ?_
  repeat (first | (refine Mix.mix_q (by simp only [List.getElem?_toArray, List.getElem?_cons_zero, List.getElem?_cons_succ]; exact rfl) rfl ?_; go_big_quiet_step (fail); refine wpQuiet_nil ?_) | (refine Mix.mix_p (by simp only [List.getElem?_toArray, List.getElem?_cons_zero, List.getElem?_cons_succ]; exact rfl) rfl rfl ?_; go_big_quiet_step (fail); refine wpQuiet_nil ?_) | (refine Mix.mix_s (by simp only [List.getElem?_toArray, List.getElem?_cons_zero, List.getElem?_cons_succ]; exact rfl) rfl rfl ?_; go_big_quiet_step (fail); refine wpQuiet_nil ?_))
  intro k3
  refine at_world fun W3 hW3 => ?_
  have C3 := hid (show Ch (fun _ => False) w W3 from by rw [hW3]; exact C2.out.drewN k3)
  have T3 := hid (show Blk W3 w.heap.size 26 #[.int .u8 k, .int .i64 (j : Int), .int .i64 pos, .int .i64 num, .int .u32 id', .int .u8 gr, .string s] from by rw [hW3]; exact T2.out.drewN k3)
  clear hW3 t0 t1 a2 lj s3 s4 s5 lt2
  have SG3 := hid (C3.out.blk HSG.out (fun e => e))
  have lt3 := T3.out.lt
  have t0 : W3.cell? ⟨w.heap.size, 0, none⟩ = some (.int .u8 k) := T3.out.cell 0
  have s3 : W3.cell? ⟨sg, 3, none⟩ = some (.int .i64 x.b) := SG3.out.cell 3
  have s4 : W3.cell? ⟨sg, 4, none⟩ = some (.int .i64 x.r) := SG3.out.cell 4
  have s5 : W3.cell? ⟨sg, 5, none⟩ = some (.int .i64 x.l) := SG3.out.cell 5
  go_wp2_with fail
  go_ret
  exact ⟨rfl, C3.out.alloc _⟩
set_option maxRecDepth 100000
section
variable {σ : RS} {y : Ly} {n m : Nat}
theorem RS.Ok.rd (O : σ.Ok y n m) (r' : Rd) (tx' : List UInt8) (h1 : r'.sl = σ.r.sl) (h2 : r'.cl = σ.r.cl) : RS.Ok { σ with r := r', tx := tx' } y n m :=
  ⟨h1.trans O.sl, O.nl, O.n8, by rw [show ({ σ with r := r', tx := tx' } : RS).r.cl = σ.r.cl from h2]; exact O.cl, by rw [show ({ σ with r := r', tx := tx' } : RS).r.cl = σ.r.cl from h2]; exact O.hm, O.mn, O.pl, O.stf, O.h23, O.ed, O.y0, O.y1, O.vs, O.lg, O.f0, O.fs⟩
theorem RS.Ok.slot (O : σ.Ok y n m) (k : Nat) (o : Option Snp) : RS.Ok { σ with sl := σ.sl.set k o } y n m :=
  ⟨O.sl, by rw [List.length_set]; exact O.nl, O.n8, O.cl, O.hm, O.mn, O.pl, O.stf, O.h23, O.ed, O.y0, O.y1, O.vs, O.lg, O.f0, O.fs⟩
theorem RS.Ok.pin (O : σ.Ok y n m) (k : Nat) (o : Option (Nat × Pn)) : RS.Ok { σ with ps := σ.ps.set k o } y n m :=
  ⟨O.sl, O.nl, O.n8, O.cl, O.hm, O.mn, by rw [List.length_set]; exact O.pl, O.stf, O.h23, O.ed, O.y0, O.y1, O.vs, O.lg, O.f0, O.fs⟩
theorem RS.Ok.bank (O : σ.Ok y n m) (s' : BS) (lv' : Value) (h1 : s'.vs.length = σ.s.vs.length) (h2 : s'.lg.length < 900000) (h3 : EdOk s' σ.f) : RS.Ok { σ with s := s', lv := lv' } y n m :=
  ⟨O.sl, O.nl, O.n8, O.cl, O.hm, O.mn, O.pl, O.stf, O.h23, h3, O.y0, O.y1, by rw [show ({ σ with s := s', lv := lv' } : RS).s.vs.length = σ.s.vs.length from h1]; exact O.vs, h2, O.f0, O.fs⟩
theorem RS.Ok.arena (O : σ.Ok y n m) (ns' : List An) : RS.Ok { σ with ns := ns' } y n m :=
  ⟨O.sl, O.nl, O.n8, O.cl, O.hm, O.mn, O.pl, O.stf, O.h23, O.ed, O.y0, O.y1, O.vs, O.lg, O.f0, O.fs⟩
theorem RS.Ok.publish (O : σ.Ok y n m) (rv' : Value) (rs' : List RvS) (h23 : 23 < σ.cs.size) (hy : y.arr.size ≤ 10) : RS.Ok { σ with cs := σ.cs.setIfInBounds 23 rv', rv := rv', rs := rs' } y n m :=
  ⟨O.sl, O.nl, O.n8, O.cl, O.hm, O.mn, O.pl, ⟨by rw [Array.getElem?_setIfInBounds]; exact O.stf.bank, by rw [Array.getElem?_setIfInBounds]; exact O.stf.arena, by rw [Array.getElem?_setIfInBounds]; exact O.stf.epoch, fun j v hj => by
    have hlt := (Array.getElem?_eq_some_iff.1 hj).1
    rw [Array.getElem?_setIfInBounds, if_neg (by omega)]
    exact O.stf.lay j v hj⟩, by
    show (σ.cs.setIfInBounds 23 rv')[23]? = some rv'
    rw [Array.getElem?_setIfInBounds, if_pos rfl, if_pos h23], O.ed, O.y0, O.y1, O.vs, O.lg, O.f0, O.fs⟩
end
structure EvR where
  d : Int
  op : OpV
  s : ByteArray
  ma : Option Addr
  mn : Nat
  mc : Nat
  mz : List Int
def EvR.cells (x : EvR) : List Value := [.int .u8 x.d, .int .u8 x.op.k, .int .i64 x.op.sl, .int .i64 x.op.at', .int .i64 x.op.n, .int .u32 x.op.id, .int .u8 x.op.g, .string x.op.s, .string x.s, .slice x.ma x.mn x.mc]
structure OpV.ok (x : OpV) : Prop where
  k : 0 ≤ x.k ∧ x.k < 256
  sl : -9223372036854775808 ≤ x.sl ∧ x.sl < 9223372036854775808
  at' : -9223372036854775808 ≤ x.at' ∧ x.at' < 9223372036854775808
  n : -9223372036854775808 ≤ x.n ∧ x.n < 9223372036854775808
  id : 0 ≤ x.id ∧ x.id < 4294967296
structure EvR.ok (w : World) (x : EvR) : Prop where
  d : 0 ≤ x.d ∧ x.d < 256
  op : x.op.ok
  ml : x.mz.length = x.mn
  mz : ∀ z ∈ x.mz, 0 ≤ z ∧ z < 256
  mcell : 0 < x.mn → ∃ b off, x.ma = some ⟨b, off, none⟩ ∧ b < w.heap.size ∧ ∀ i, i < x.mn → w.cell? ⟨b, off + i, none⟩ = some (.int .u8 (lk x.mz i))
def InEvR (w : World) (a : Option Addr) (n : Nat) (xs : List EvR) : Prop :=
  xs.length = n ∧ (∀ x ∈ xs, x.ok w) ∧ (0 < n → ∃ b off, a = some ⟨b, off, none⟩ ∧ b < w.heap.size ∧ ∀ (i j : Nat) (x : EvR) v, xs[i]? = some x → x.cells[j]? = some v → w.cell? ⟨b, off + (i * 10 + j), none⟩ = some v)
theorem below_cell {B : Nat} {w w' : World} (h : Below B w w') {p : Addr} (hp : p.block < B) : w'.cell? p = w.cell? p := World.cell?_of_block (w := w) (h.block p.block hp)
theorem EvR.ok.below {w w' : World} {x : EvR} (h : x.ok w) (b : Below w.heap.size w w') : x.ok w' :=
  ⟨h.d, h.op, h.ml, h.mz, fun h0 => by
    obtain ⟨g, off, e, hg, hc⟩ := h.mcell h0
    exact ⟨g, off, e, Nat.lt_of_lt_of_le hg b.size, fun i hi => (below_cell b hg).trans (hc i hi)⟩⟩
def evKs : List K1 := [.inl (some (some .u8)), .inl (some (some .u8)), .inl (some (some .i64)), .inl (some (some .i64)), .inl (some (some .i64)), .inl (some (some .u32)), .inl (some (some .u8)), .inl none, .inl none, .inr [some (some .u8)]]
theorem wf_u32 {n : Int} (h : (Lit.int .u32 n).wf = true) : 0 ≤ n ∧ n < 4294967296 := by
  simp [Lit.wf, IntKind.min, IntKind.max, IntKind.signed, IntKind.bits] at h; omega
theorem fits1 {k0 : K0} {vs : List Value} (h : FitsS [k0] vs) : ∃ a, vs = [a] ∧ fitsS k0 a := by
  obtain ⟨hl, hv⟩ := h
  obtain ⟨a, ha, fa⟩ := hv 0 _ rfl
  match vs, hl with
  | [x], _ =>
    simp at ha
    exact ⟨a, by rw [ha], fa⟩
theorem in_bytes {w : World} {a : Option Addr} {n : Nat} {ls : List (List Value)} (h : InRowsS [some (some .u8)] w a n ls) : ∃ zs : List Int, zs.length = n ∧ (∀ z ∈ zs, 0 ≤ z ∧ z < 256) ∧ (0 < n → ∃ b off, a = some ⟨b, off, none⟩ ∧ b < w.heap.size ∧ ∀ i, i < n → w.cell? ⟨b, off + i, none⟩ = some (.int .u8 (lk zs i))) := by
  obtain ⟨hl, hf, hc⟩ := h
  obtain ⟨zs, hzl, hz⟩ := exists_list (R := fun i (z : Int) => ls[i]? = some [.int .u8 z] ∧ 0 ≤ z ∧ z < 256) n (fun i hi => by
    have h0 : ls[i]? = some (ls[i]'(by omega)) := List.getElem?_eq_getElem (by omega)
    obtain ⟨a, hv, ⟨u, rfl, hu⟩⟩ := fits1 (hf _ (List.getElem_mem (by omega : i < ls.length)))
    exact ⟨u, by rw [h0, hv], wf_u8 hu⟩)
  refine ⟨zs, hzl, fun z hm => ?_, fun h0 => ?_⟩
  · obtain ⟨i, hi⟩ := List.getElem?_of_mem hm
    exact (hz i z hi).2
  · obtain ⟨b, off, rfl, hb, hcell⟩ := hc h0
    refine ⟨b, off, rfl, hb, fun i hi => ?_⟩
    have hzi : zs[i]? = some (lk zs i) := by
      rw [lk, List.getD_eq_getElem?_getD, List.getElem?_eq_getElem (by omega)]
      rfl
    have := hcell i 0 _ (.int .u8 (lk zs i)) (hz i _ hzi).1 rfl
    simpa using this
theorem in_ev1 {w : World} {vs : List Value} (h : FitsN w evKs vs) : ∃ x : EvR, vs = x.cells ∧ x.ok w := by
  obtain ⟨hl, hv⟩ := h
  obtain ⟨v0, h0, u0, rfl, w0⟩ := hv 0 _ rfl
  obtain ⟨v1, h1, u1, rfl, w1⟩ := hv 1 _ rfl
  obtain ⟨v2, h2, u2, rfl, w2⟩ := hv 2 _ rfl
  obtain ⟨v3, h3, u3, rfl, w3⟩ := hv 3 _ rfl
  obtain ⟨v4, h4, u4, rfl, w4⟩ := hv 4 _ rfl
  obtain ⟨v5, h5, u5, rfl, w5⟩ := hv 5 _ rfl
  obtain ⟨v6, h6, u6, rfl, w6⟩ := hv 6 _ rfl
  obtain ⟨v7, h7, u7, rfl, w7⟩ := hv 7 _ rfl
  obtain ⟨v8, h8, u8, rfl, w8⟩ := hv 8 _ rfl
  obtain ⟨v9, h9, a9, n9, c9, l9, rfl, _, _, _, f9⟩ := hv 9 _ rfl
  obtain ⟨zs, hz1, hz2, hz3⟩ := in_bytes f9
  refine ⟨⟨u0, ⟨u1, u2, u3, u4, u5, u6, u7⟩, u8, a9, n9, c9, zs⟩, ?_, ⟨wf_u8 w0, ⟨wf_u8 w1, wf_i64 w2, wf_i64 w3, wf_i64 w4, wf_u32 w5⟩, hz1, hz2, hz3⟩⟩
  match vs, hl with
  | [x0, x1, x2, x3, x4, x5, x6, x7, x8, x9], _ =>
    simp at h0 h1 h2 h3 h4 h5 h6 h7 h8 h9
    rw [h0, h1, h2, h3, h4, h5, h6, h7, h8, h9]
    rfl
theorem in_evR {w : World} {a : Option Addr} {n : Nat} {ls : List (List Value)} (h : InRowsN evKs w a n ls) : ∃ l, InEvR w a n l := by
  obtain ⟨hl, hf, hc⟩ := h
  obtain ⟨xs, hxl, hx⟩ := exists_list (R := fun i (x : EvR) => ls[i]? = some x.cells ∧ x.ok w) n (fun i hi => by
    have h0 : ls[i]? = some (ls[i]'(by omega)) := List.getElem?_eq_getElem (by omega)
    obtain ⟨x, hx, ho⟩ := in_ev1 (hf _ (List.getElem_mem (by omega : i < ls.length)))
    exact ⟨x, by rw [h0, hx], ho⟩)
  refine ⟨xs, hxl, fun x hm => ?_, fun h0 => ?_⟩
  · obtain ⟨i, hi⟩ := List.getElem?_of_mem hm
    exact (hx i x hi).2
  · obtain ⟨b, off, rfl, hb, hcell⟩ := hc h0
    exact ⟨b, off, rfl, hb, fun i j x v hi hj => hcell i j _ v (hx i x hi).1 hj⟩
def heldU (l : List (Option Nat)) (k : Nat) : List Int := ((List.range k).filter fun i => ((l[i]?).getD none).isSome).map fun i : Nat => (i : Int)
theorem heldU_some {l : List (Option Nat)} {k g : Nat} (h : l[k]? = some (some g)) : heldU l (k + 1) = heldU l k ++ [(k : Int)] := by
  unfold heldU
  rw [List.range_succ, List.filter_append, List.map_append]
  simp [h]
theorem heldU_none {l : List (Option Nat)} {k : Nat} (h : l[k]? = some none) : heldU l (k + 1) = heldU l k := by
  unfold heldU
  rw [List.range_succ, List.filter_append, List.map_append]
  simp [h]
theorem heldU_len (l : List (Option Nat)) (k : Nat) : (heldU l k).length ≤ k := by
  unfold heldU
  rw [List.length_map]
  have := List.length_filter_le (fun i => ((l[i]?).getD none).isSome) (List.range k)
  rwa [List.length_range] at this
theorem heldU_mem {l : List (Option Nat)} {k j : Nat} : (j : Int) ∈ heldU l k ↔ j < k ∧ ∃ g, l[j]? = some (some g) := by
  unfold heldU
  rw [List.mem_map]
  constructor
  · rintro ⟨i, hi, e⟩
    have e' : i = j := by omega
    subst e'
    rw [List.mem_filter, List.mem_range] at hi
    refine ⟨hi.1, ?_⟩
    cases h : l[i]? with
    | none => rw [h] at hi; simp at hi
    | some o =>
      cases o with
      | none => rw [h] at hi; simp at hi
      | some g => exact ⟨g, rfl⟩
  · rintro ⟨h1, g, h2⟩
    refine ⟨j, ?_, rfl⟩
    rw [List.mem_filter, List.mem_range]
    exact ⟨h1, by rw [h2]; rfl⟩
theorem infoIntR : (Tryz.prog.info? 3).map (fun i => (i.zero, i.size, i.bytes)) = some (some (.int .i64 0), 1, 8) := by kernel_rfl
def iV (l : List Int) : List Value := l.map (.int .i64)
set_option maxRecDepth 100000 in
set_option maxHeartbeats 1000000 in
theorem rheld_any (g lb n : Nat) (r : Rd) (l : List (Option Nat)) (w : World) (h : Blk w g 111 r.cells) (hs : r.sl = .slice (some ⟨lb, 0, none⟩) n n) (hl : Blk w lb 140 (pinsA l)) (hln : l.length = n) (hn : n < 1000) :
    Calls Tryz.prog 25 #[.pointer (some ⟨g, 0, none⟩)] w fun e w' => ∃ v, e = .returned v ∧ w'.ownsRow w.heap.size 3 1 v (heldU l n).length (iV (heldU l n)) ∧ Ch (fun _ => False) w w' := by
  obtain ⟨i0, hi, hz0, hz1, hz2⟩ := info_parts infoIntR
  have a2 : w.cell? ⟨g, 2, none⟩ = some (.slice (some ⟨lb, 0, none⟩) n n) := (h.cell 2).trans (by rw [← hs]; rfl)
  have HL := hid hl
  have HLN := hid hln
  clear h hs hl hln
  go_enter Tryz.func25, Tryz.ntmps25
  go_wp2_with fail
  go_loopw [3, 14] (fun v i W => ∃ k : Nat, k ≤ n ∧ i = .int .i64 (k : Int) ∧ W.ownsRow w.heap.size 3 1 v (heldU l k).length (iV (heldU l k)) ∧ Ch (fun _ => False) w W) (fun _ i _ => n - (intOf i).toNat)
  case atStart => exact ⟨0, Nat.zero_le _, rfl, World.ownsRow_nil _ _ _ _, Ch.refl _ _⟩
  case round =>
    obtain ⟨k, hk, rfl, hown, hch⟩ := hrel
    have hul := heldU_len l k
    obtain ⟨A0, cap0, hv0, _⟩ := own_slice hown
    subst hv0
    have HCH := hid hch
    have HOW := hid hown
    have HLW := hid (hch.blk HL.out id)
    clear hch hown
    by_cases hlt : k < n
    · have d1 : decide (k < n) = true := decide_eq_true hlt
      have d2 : decide ((k : Int) < (n : Int)) = true := decide_eq_true (by omega)
      obtain ⟨o, ho⟩ : ∃ o, l[k]? = some o := ⟨_, List.getElem?_eq_getElem (by rw [HLN.out]; exact hlt)⟩
      have HO := hid ho
      have CK0 := hid (show wr.cell? ⟨lb, k, none⟩ = some (pinV o) from (HLW.out.cell k).trans (pinsA_at ho))
      clear ho
      cases o with
      | none =>
        have ck : wr.cell? ⟨lb, k, none⟩ = some (.pointer none) := CK0.out
        go_wp2_with fail
        go_roundw
        case rel => exact ⟨k + 1, hlt, by go_num, by rw [heldU_none HO.out]; exact HOW.out, HCH.out⟩
        case measure => simp [intOf]; omega
      | some gg =>
        have ck : wr.cell? ⟨lb, k, none⟩ = some (.pointer (some ⟨gg, 0, none⟩)) := CK0.out
        have hne : ∀ W : World, (binOp .neq 140 (.pointer (some ⟨gg, 0, none⟩)) (.pointer none)).run Tryz.prog W = .ok (.bool true) W := fun W => by kernel_rfl
        go_wp2_with (at_builtin; refine wpList_app _ rfl (.tmp 21) (.tmp 23) 77 rfl w.heap.size 3 i0 _ 1 8 Tryz.underlying77 hi hz0 hz1 hz2 rfl (by decide) _ _ _ rfl (HOW.out.alloc _) ⟨wr.heap.size, 0, none⟩ 1 1 [.int .i64 (k : Int)] rfl rfl ?c1 ?c2 (by decide) ?c3 ?c4 ?c5 ?c6)
        case c1 => intro j u hu; rw [addr_add0]; exact (Blk.cell (Blk.new wr 3 #[.int .i64 (k : Int)]) j).trans (by simpa using hu)
        case c2 => intro u hu; simp at hu; rw [hu]; rfl
        case c3 => unfold maxLen; omega
        case c4 => omega
        case c5 => exact Nat.le_trans HCH.out.size (by simp)
        case c6 =>
          intro v' w' hown' hgrow hfresh
          have hch' : Ch (fun _ => False) w w' := (HCH.out.alloc _).grown hgrow (fun q hq hl => by
            have := (HOW.out.lt q hq).1
            omega)
          have HC' := hid hch'
          have HO' := hid hown'
          clear hch' hown' hgrow hfresh
          go_wp2_with fail
          go_roundw
          case rel => exact ⟨k + 1, hlt, by go_num, by rw [heldU_some HO.out, List.length_append, List.length_singleton, iV, List.map_append]; exact HO'.out, HC'.out⟩
          case measure => simp [intOf]; omega
    · obtain rfl : k = n := by omega
      have d1 : decide (k < k) = false := decide_eq_false (by omega)
      have d2 : decide ((k : Int) < (k : Int)) = false := decide_eq_false (by omega)
      go_wp2_with fail
      go_ret
      exact ⟨_, rfl, HOW.out, HCH.out⟩
def cnt6 (l : List EvR) : Nat := (l.filter fun x => x.d.tmod 8 == 6).length
def ShortP (s : ByteArray) (rd : Int) (n : Nat) (l : List EvR) : Prop := s.size ≤ 120 ∧ vdB (bs s) = true ∧ 0 ≤ rd ∧ rd ≤ 4 ∧ n ≤ 150 ∧ (∀ x ∈ l, x.s.size ≤ 120 ∧ x.mn ≤ 4) ∧ cnt6 l ≤ 6
set_option maxRecDepth 100000 in
set_option maxHeartbeats 2000000 in
theorem lshort_any (s : ByteArray) (rd : Int) (a : Option Addr) (n c : Nat) (l : List EvR) (w : World) (h : InEvR w a n l) (hs : s.size ≤ maxLen) :
    Calls Tryz.prog 8 #[.string s, .int .i64 rd, .slice a n c] w fun e w' => ∃ b, e = .returned (.bool b) ∧ Below w.heap.size w w' ∧ (b = true → ShortP s rd n l) := by
  have HE := hid h
  clear h
  by_cases h1 : 120 < s.size
  · have d1 : decide (120 < s.size) = true := decide_eq_true h1
    have d1' : decide ((120 : Int) < (s.size : Int)) = true := decide_eq_true (by omega)
    go_enter Tryz.func8, Tryz.ntmps8
    go_wp2_with fail
    go_ret
    exact ⟨false, rfl, Below.refl _ _, fun h => by cases h⟩
  · have d1 : decide (120 < s.size) = false := decide_eq_false h1
    have d1' : decide ((120 : Int) < (s.size : Int)) = false := decide_eq_false (by omega)
    have h1 : s.size ≤ 120 := by omega
    go_enter Tryz.func8, Tryz.ntmps8
    go_wp2_with fail
    refine (rvalid_any s w (by omega)).mono ?_
    rintro e w1 ⟨rfl, hb1⟩
    have HB1 := hid hb1
    clear hb1
    cases hvd : vdB (bs s) with
    | false =>
      go_wp2_with fail
      go_ret
      exact ⟨false, rfl, HB1.out, fun h => by cases h⟩
    | true =>
      have HVD := hid hvd
      clear hvd
      by_cases h2 : rd < 0
      · have d2 : decide (rd < 0) = true := decide_eq_true h2
        go_wp2_with fail
        go_ret
        exact ⟨false, rfl, HB1.out, fun h => by cases h⟩
      have d2 : decide (rd < 0) = false := decide_eq_false h2
      by_cases h3 : 4 < rd
      · have d3 : decide (4 < rd) = true := decide_eq_true h3
        go_wp2_with fail
        go_ret
        exact ⟨false, rfl, HB1.out, fun h => by cases h⟩
      have d3 : decide (4 < rd) = false := decide_eq_false h3
      by_cases h4 : 150 < n
      · have d4 : decide (150 < n) = true := decide_eq_true h4
        have d4' : decide ((150 : Int) < (n : Int)) = true := decide_eq_true (by omega)
        go_wp2_with fail
        go_ret
        exact ⟨false, rfl, HB1.out, fun h => by cases h⟩
      have d4 : decide (150 < n) = false := decide_eq_false h4
      have d4' : decide ((150 : Int) < (n : Int)) = false := decide_eq_false (by omega)
      have hn150 : n ≤ 150 := by omega
      have HR1 := hid (show 0 ≤ rd ∧ rd ≤ 4 by omega)
      go_wp2_with fail
      clear h2 h3 h4 d2 d3 d4 d4'
      go_loopw [7, 8] (fun q i W => ∃ k : Nat, k ≤ n ∧ i = .int .i64 (k : Int) ∧ q = .int .i64 (cnt6 (l.take k) : Int) ∧ (∀ x ∈ l.take k, x.s.size ≤ 120 ∧ x.mn ≤ 4) ∧ w1 = W) (fun _ i _ => n - (intOf i).toNat)
      case atStart => exact ⟨0, Nat.zero_le _, rfl, rfl, by simp, rfl⟩
      case round =>
        obtain ⟨k, hk, rfl, rfl, hall, rfl⟩ := hrel
        have HALL := hid hall
        have hcl : cnt6 (l.take k) ≤ k := by
          unfold cnt6
          have := List.length_filter_le (fun x : EvR => x.d.tmod 8 == 6) (l.take k)
          rw [List.length_take] at this
          omega
        obtain ⟨cn, hcn⟩ : ∃ cn, cn = cnt6 (l.take k) := ⟨_, rfl⟩
        have HCN := hid hcn
        rw [← hcn] at hcl ⊢
        clear hall hcn
        by_cases hlt : k < n
        · have e1 : decide (k < n) = true := decide_eq_true hlt
          have e2 : decide ((k : Int) < (n : Int)) = true := decide_eq_true (by omega)
          obtain ⟨x, hx⟩ : ∃ x, l[k]? = some x := ⟨_, List.getElem?_eq_getElem (by rw [HE.out.1]; exact hlt)⟩
          obtain ⟨b, off, hab, hbl, hcc⟩ := HE.out.2.2 (by omega)
          subst hab
          have hcell : ∀ j v, x.cells[j]? = some v → w1.cell? ⟨b, off + (k * 10 + j), none⟩ = some v := fun j v hj => (below_cell HB1.out (p := ⟨b, _, none⟩) hbl).trans (hcc k j x v hx hj)
          have c0 : w1.cell? ⟨b, off + k * 10, none⟩ = some (.int .u8 x.d) := hcell 0 _ rfl
          have c8 : w1.cell? ⟨b, off + k * 10 + 8, none⟩ = some (.string x.s) := hcell 8 _ rfl
          have c9 : w1.cell? ⟨b, off + k * 10 + 9, none⟩ = some (.slice x.ma x.mn x.mc) := hcell 9 _ rfl
          have htk : l.take (k + 1) = l.take k ++ [x] := by
            have hkl := List.getElem?_eq_some_iff.1 hx
            rw [List.take_succ_eq_append_getElem hkl.1, hkl.2]
          have HTK := hid htk
          clear hcc hcell hx htk
          by_cases h5 : 120 < x.s.size
          · have d5 : decide (120 < x.s.size) = true := decide_eq_true h5
            have d5' : decide ((120 : Int) < (x.s.size : Int)) = true := decide_eq_true (by omega)
            go_wp2_with fail
            go_ret
            exact ⟨false, rfl, HB1.out, fun h => by cases h⟩
          have d5 : decide (120 < x.s.size) = false := decide_eq_false h5
          have d5' : decide ((120 : Int) < (x.s.size : Int)) = false := decide_eq_false (by omega)
          by_cases h6 : 4 < x.mn
          · have d6 : decide (4 < x.mn) = true := decide_eq_true h6
            have d6' : decide ((4 : Int) < (x.mn : Int)) = true := decide_eq_true (by omega)
            go_wp2_with fail
            go_ret
            exact ⟨false, rfl, HB1.out, fun h => by cases h⟩
          have d6 : decide (4 < x.mn) = false := decide_eq_false h6
          have d6' : decide ((4 : Int) < (x.mn : Int)) = false := decide_eq_false (by omega)
          have HALL' := hid (show ∀ z ∈ l.take (k + 1), z.s.size ≤ 120 ∧ z.mn ≤ 4 from fun z hz => by
            rw [HTK.out] at hz
            rcases List.mem_append.1 hz with hz | hz
            · exact HALL.out z hz
            · rw [List.mem_singleton.1 hz]
              omega)
          clear h5 h6
          by_cases h7 : x.d.tmod 8 = 6
          · have d7 : (x.d.tmod 8 == 6) = true := by rw [beq_iff_eq]; exact h7
            have HC7 := hid (show cnt6 (l.take (k + 1)) = cn + 1 from by rw [HTK.out, HCN.out]; unfold cnt6; rw [List.filter_append, List.length_append]; simp [h7])
            clear h7
            go_wp2_with fail
            go_roundw
            case rel => exact ⟨k + 1, hlt, by go_num, by rw [HC7.out]; go_num, HALL'.out, by first | rfl | trivial⟩
            case measure => simp [intOf]; omega
          · have d7 : (x.d.tmod 8 == 6) = false := by rw [beq_eq_false_iff_ne]; exact h7
            have HC7 := hid (show cnt6 (l.take (k + 1)) = cn from by rw [HTK.out, HCN.out]; unfold cnt6; rw [List.filter_append, List.length_append]; simp [h7])
            clear h7
            go_wp2_with fail
            go_roundw
            case rel => exact ⟨k + 1, hlt, by go_num, by rw [HC7.out], HALL'.out, by first | rfl | trivial⟩
            case measure => simp [intOf]; omega
        · obtain rfl : k = n := by omega
          have e1 : decide (k < k) = false := decide_eq_false (by omega)
          have e2 : decide ((k : Int) < (k : Int)) = false := decide_eq_false (by omega)
          go_wp2_with fail
          go_ret
          refine ⟨_, rfl, HB1.out, fun hb => ?_⟩
          have htl : l.take k = l := List.take_of_length_le (by rw [HE.out.1]; exact Nat.le_refl _)
          have hc6 : cn ≤ 6 := by
            have := of_decide_eq_true hb
            omega
          rw [HCN.out, htl] at hc6
          have hal := HALL.out
          rw [htl] at hal
          exact ⟨h1, HVD.out, HR1.out.1, HR1.out.2, hn150, hal, hc6⟩
end Go.Proofs.YtjcdknhejcbpiaaGreat
