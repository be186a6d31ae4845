/- The queue: Push.Step. -/
import Derived.Test.YtpkjjlahmjijnaaQSt
import Derived.Test.YtpkjjlahmjijnaaQSu
import Derived.Test.YtpkjjlahmjijnaaMapU8
import Derived.Test.YtpkjjlahmjijnaaQPsteps
namespace Go.Proofs.Ytpkjjlahmjijnaa
open Go.RowKit
set_option linter.unusedVariables false
set_option linter.unusedSimpArgs false
set_option linter.unusedSectionVars false

/-- What Push.Step leaves. -/
def URes (B p cb qb g : Nat) (lv : Value) (f : Qd) (pu : Value) (q : Pu) (o : BS × Pu) (w : World) (e : Ending) (w' : World) : Prop :=
  e = .returned (.tuple #[.int .u8 q.ph, .bool (o.2.ph == 0)]) ∧ ∃ lv', QueueM B w' p cb qb lv' o.1 f pu ∧ Blk w' g 105 (puCells qb o.2) ∧ Ch (fun b => FP p cb lv b ∨ b = g) w w' ∧ Fresh w lv lv'
section
variable (B p cb qb g : Nat) (lv : Value) (s : BS) (f : Qd) (pu : Value) (q : Pu) (w : World) (h : QueueM B w p cb qb lv s f pu) (hq : Blk w g 105 (puCells qb q)) (ht : 0 ≤ q.t ∧ q.t < 16) (hlen : s.lg.length < 1000000) (hB : B ≤ w.heap.size)
include h hq ht hlen hB

set_option maxRecDepth 100000 in
set_option maxHeartbeats 1000000 in
theorem ustep4 (hph : q.ph = 4) : Calls Try.prog 28 #[.pointer (some ⟨g, 0, none⟩)] w (URes B p cb qb g lv f pu q (pustep s f q) w) := by
  have hmm := @run_makeMap Try.prog
  have hfn : ∀ W : World, (binOp .neq 106 (.func (.func 57) #[] #[]) .nilFunc).run Try.prog W = .ok (.bool true) W := fun W => by kernel_rfl
  have HE := hid (pustep4 (s := s) (f := f) hph)
  have HPH := hid hph
  go_enter Try.func28, Try.ntmps28
  go_wp2_with (first | (refine wpList_insert_u8 rfl _ _ _ 107 rfl _ _ Try.underlying107 Try.underlying5 w.heap.size [] (MapAt.new w) 4 (.func (.func 57) #[] #[]) rfl rfl rfl rfl ?_; intro w1 m1 c1) | (refine wpList_insert_u8 rfl _ _ _ 107 rfl _ _ Try.underlying107 Try.underlying5 w.heap.size [(4, .func (.func 57) #[] #[])] m1 5 (.func (.func 58) #[] #[]) rfl rfl rfl rfl ?_; intro w2 m2 c2) | (refine wpList_insert_u8 rfl _ _ _ 107 rfl _ _ Try.underlying107 Try.underlying5 w.heap.size [(4, .func (.func 57) #[] #[]), (5, .func (.func 58) #[] #[])] m2 6 (.func (.func 59) #[] #[]) rfl rfl rfl rfl ?_; intro w3 m3 c3) | (refine wpList_insert_u8 rfl _ _ _ 107 rfl _ _ Try.underlying107 Try.underlying5 w.heap.size [(4, .func (.func 57) #[] #[]), (5, .func (.func 58) #[] #[]), (6, .func (.func 59) #[] #[])] m3 7 (.func (.func 60) #[] #[]) rfl rfl rfl rfl ?_; intro w4 m4 c4; have cW : Ch (fun _ => False) w w4 := ((((((Ch.refl (fun _ => False) w).alloc (.map #[] 0)).trans c1 (fun j hj e => by subst e; omega)).trans c2 (fun j hj e => by subst e; omega)).trans c3 (fun j hj e => by subst e; omega)).trans c4 (fun j hj e => by subst e; omega)); have hqW := cW.blk hq id; have hW := h.keep cW; have hBW : B ≤ w4.heap.size := Nat.le_trans hB cW.size; have a5 : w4.cell? ⟨g, 5, none⟩ = some (.int .u8 4) := (hqW.cell 5).trans (by show some (Value.int .u8 q.ph) = _; rw [hph]); have HCW := hid cW; have HQW := hid hqW; have HW := hid hW; have HM := hid m4; clear cW hqW hW c1 m1 c2 m2 c3 m3 c4 m4) | (refine wpList_lookup_u8 rfl _ _ 107 rfl _ _ Try.underlying107 Try.underlying5 w.heap.size [(4, .func (.func 57) #[] #[]), (5, .func (.func 58) #[] #[]), (6, .func (.func 59) #[] #[]), (7, .func (.func 60) #[] #[])] HM.out 4 .nilFunc (Try.zeroValue106 _) rfl rfl (.func (.func 57) #[] #[]) rfl ?_) | fail)
  refine (u_tail B p cb qb g lv s f pu q w4 HW.out HQW.out ht hlen hBW).mono ?_
  rintro e w5 ⟨rfl, lv', hQ5, hq5, hc5, hf5⟩
  have x5 : w5.cell? ⟨g, 5, none⟩ = some (.int .u8 5) := hq5.cell 5
  have HQ5 := hid hQ5
  have Hq5 := hid hq5
  have Hc5 := hid hc5
  have Hf5 := hid hf5
  clear hQ5 hq5 hc5 hf5 HM
  go_wp2_with fail
  go_quiet (fail)
  go_wp2_with fail
  go_ret2
  rw [HE.out]
  exact ⟨by rw [HPH.out]; rfl, lv', HQ5.out.drewN nq, Hq5.out.drewN nq, ((HCW.out.mono fun _ _ h => h.elim).trans Hc5.out (fun _ _ h => h)).drewN nq, Hf5.out.imp id fun h b hb => Nat.le_trans HCW.out.size (h b hb)⟩

set_option maxRecDepth 100000 in
set_option maxHeartbeats 1000000 in
theorem ustep5a (hph : q.ph = 5) (hc : q.fr < qH s f) : Calls Try.prog 28 #[.pointer (some ⟨g, 0, none⟩)] w (URes B p cb qb g lv f pu q (pustep s f q) w) := by
  have hmm := @run_makeMap Try.prog
  have hfn : ∀ W : World, (binOp .neq 106 (.func (.func 58) #[] #[]) .nilFunc).run Try.prog W = .ok (.bool true) W := fun W => by kernel_rfl
  have HE := hid (pustep5a (s := s) (f := f) hph hc)
  have HPH := hid hph
  have HC := hid hc
  clear hc
  go_enter Try.func28, Try.ntmps28
  go_wp2_with (first | (refine wpList_insert_u8 rfl _ _ _ 107 rfl _ _ Try.underlying107 Try.underlying5 w.heap.size [] (MapAt.new w) 4 (.func (.func 57) #[] #[]) rfl rfl rfl rfl ?_; intro w1 m1 c1) | (refine wpList_insert_u8 rfl _ _ _ 107 rfl _ _ Try.underlying107 Try.underlying5 w.heap.size [(4, .func (.func 57) #[] #[])] m1 5 (.func (.func 58) #[] #[]) rfl rfl rfl rfl ?_; intro w2 m2 c2) | (refine wpList_insert_u8 rfl _ _ _ 107 rfl _ _ Try.underlying107 Try.underlying5 w.heap.size [(4, .func (.func 57) #[] #[]), (5, .func (.func 58) #[] #[])] m2 6 (.func (.func 59) #[] #[]) rfl rfl rfl rfl ?_; intro w3 m3 c3) | (refine wpList_insert_u8 rfl _ _ _ 107 rfl _ _ Try.underlying107 Try.underlying5 w.heap.size [(4, .func (.func 57) #[] #[]), (5, .func (.func 58) #[] #[]), (6, .func (.func 59) #[] #[])] m3 7 (.func (.func 60) #[] #[]) rfl rfl rfl rfl ?_; intro w4 m4 c4; have cW : Ch (fun _ => False) w w4 := ((((((Ch.refl (fun _ => False) w).alloc (.map #[] 0)).trans c1 (fun j hj e => by subst e; omega)).trans c2 (fun j hj e => by subst e; omega)).trans c3 (fun j hj e => by subst e; omega)).trans c4 (fun j hj e => by subst e; omega)); have hqW := cW.blk hq id; have hW := h.keep cW; have hBW : B ≤ w4.heap.size := Nat.le_trans hB cW.size; have a5 : w4.cell? ⟨g, 5, none⟩ = some (.int .u8 5) := (hqW.cell 5).trans (by show some (Value.int .u8 q.ph) = _; rw [hph]); have HCW := hid cW; have HQW := hid hqW; have HW := hid hW; have HM := hid m4; clear cW hqW hW c1 m1 c2 m2 c3 m3 c4 m4) | (refine wpList_lookup_u8 rfl _ _ 107 rfl _ _ Try.underlying107 Try.underlying5 w.heap.size [(4, .func (.func 57) #[] #[]), (5, .func (.func 58) #[] #[]), (6, .func (.func 59) #[] #[]), (7, .func (.func 60) #[] #[])] HM.out 5 .nilFunc (Try.zeroValue106 _) rfl rfl (.func (.func 58) #[] #[]) rfl ?_) | fail)
  refine (u_head_a B p cb qb g lv s f pu q w4 HW.out HQW.out ht hlen hBW HC.out).mono ?_
  rintro e w5 ⟨rfl, lv', hQ5, hq5, hc5, hf5⟩
  have x5 : w5.cell? ⟨g, 5, none⟩ = some (.int .u8 4) := hq5.cell 5
  have HQ5 := hid hQ5
  have Hq5 := hid hq5
  have Hc5 := hid hc5
  have Hf5 := hid hf5
  clear hQ5 hq5 hc5 hf5 HM
  go_wp2_with fail
  go_quiet (fail)
  go_wp2_with fail
  go_ret2
  rw [HE.out]
  exact ⟨by rw [HPH.out]; rfl, lv', HQ5.out.drewN nq, Hq5.out.drewN nq, ((HCW.out.mono fun _ _ h => h.elim).trans Hc5.out (fun _ _ h => h)).drewN nq, Hf5.out.imp id fun h b hb => Nat.le_trans HCW.out.size (h b hb)⟩

set_option maxRecDepth 100000 in
set_option maxHeartbeats 1000000 in
theorem ustep5b (hph : q.ph = 5) (HFR : Hid (q.fr < 18446744073709551616)) (hc : ¬ q.fr < qH s f) (hd : (f.n : Int) ≤ q.fr - qH s f) : Calls Try.prog 28 #[.pointer (some ⟨g, 0, none⟩)] w (URes B p cb qb g lv f pu q (pustep s f q) w) := by
  have hmm := @run_makeMap Try.prog
  have hfn : ∀ W : World, (binOp .neq 106 (.func (.func 58) #[] #[]) .nilFunc).run Try.prog W = .ok (.bool true) W := fun W => by kernel_rfl
  have HE := hid (pustep5b (s := s) (f := f) hph hc hd)
  have HPH := hid hph
  have HC := hid hc
  have HD := hid hd
  clear hc hd
  go_enter Try.func28, Try.ntmps28
  go_wp2_with (first | (refine wpList_insert_u8 rfl _ _ _ 107 rfl _ _ Try.underlying107 Try.underlying5 w.heap.size [] (MapAt.new w) 4 (.func (.func 57) #[] #[]) rfl rfl rfl rfl ?_; intro w1 m1 c1) | (refine wpList_insert_u8 rfl _ _ _ 107 rfl _ _ Try.underlying107 Try.underlying5 w.heap.size [(4, .func (.func 57) #[] #[])] m1 5 (.func (.func 58) #[] #[]) rfl rfl rfl rfl ?_; intro w2 m2 c2) | (refine wpList_insert_u8 rfl _ _ _ 107 rfl _ _ Try.underlying107 Try.underlying5 w.heap.size [(4, .func (.func 57) #[] #[]), (5, .func (.func 58) #[] #[])] m2 6 (.func (.func 59) #[] #[]) rfl rfl rfl rfl ?_; intro w3 m3 c3) | (refine wpList_insert_u8 rfl _ _ _ 107 rfl _ _ Try.underlying107 Try.underlying5 w.heap.size [(4, .func (.func 57) #[] #[]), (5, .func (.func 58) #[] #[]), (6, .func (.func 59) #[] #[])] m3 7 (.func (.func 60) #[] #[]) rfl rfl rfl rfl ?_; intro w4 m4 c4; have cW : Ch (fun _ => False) w w4 := ((((((Ch.refl (fun _ => False) w).alloc (.map #[] 0)).trans c1 (fun j hj e => by subst e; omega)).trans c2 (fun j hj e => by subst e; omega)).trans c3 (fun j hj e => by subst e; omega)).trans c4 (fun j hj e => by subst e; omega)); have hqW := cW.blk hq id; have hW := h.keep cW; have hBW : B ≤ w4.heap.size := Nat.le_trans hB cW.size; have a5 : w4.cell? ⟨g, 5, none⟩ = some (.int .u8 5) := (hqW.cell 5).trans (by show some (Value.int .u8 q.ph) = _; rw [hph]); have HCW := hid cW; have HQW := hid hqW; have HW := hid hW; have HM := hid m4; clear cW hqW hW c1 m1 c2 m2 c3 m3 c4 m4) | (refine wpList_lookup_u8 rfl _ _ 107 rfl _ _ Try.underlying107 Try.underlying5 w.heap.size [(4, .func (.func 57) #[] #[]), (5, .func (.func 58) #[] #[]), (6, .func (.func 59) #[] #[]), (7, .func (.func 60) #[] #[])] HM.out 5 .nilFunc (Try.zeroValue106 _) rfl rfl (.func (.func 58) #[] #[]) rfl ?_) | fail)
  refine (u_head_b B p cb qb g lv s f pu q w4 HW.out HQW.out ht hlen hBW HFR.out (by have := HC.out; omega) (by have := HD.out; omega)).mono ?_
  rintro e w5 ⟨rfl, lv', hQ5, hq5, hc5, hf5⟩
  have x5 : w5.cell? ⟨g, 5, none⟩ = some (.int .u8 0) := hq5.cell 5
  have HQ5 := hid hQ5
  have Hq5 := hid hq5
  have Hc5 := hid hc5
  have Hf5 := hid hf5
  clear hQ5 hq5 hc5 hf5 HM
  go_wp2_with fail
  go_quiet (fail)
  go_wp2_with fail
  go_ret2
  rw [HE.out]
  exact ⟨by rw [HPH.out]; rfl, lv', HQ5.out.drewN nq, Hq5.out.drewN nq, ((HCW.out.mono fun _ _ h => h.elim).trans Hc5.out (fun _ _ h => h)).drewN nq, Hf5.out.imp id fun h b hb => Nat.le_trans HCW.out.size (h b hb)⟩

set_option maxRecDepth 100000 in
set_option maxHeartbeats 1000000 in
theorem ustep5c (hph : q.ph = 5) (HFR : Hid (q.fr < 18446744073709551616)) (hc : ¬ q.fr < qH s f) (hd : ¬ (f.n : Int) ≤ q.fr - qH s f) : Calls Try.prog 28 #[.pointer (some ⟨g, 0, none⟩)] w (URes B p cb qb g lv f pu q (pustep s f q) w) := by
  have hmm := @run_makeMap Try.prog
  have hfn : ∀ W : World, (binOp .neq 106 (.func (.func 58) #[] #[]) .nilFunc).run Try.prog W = .ok (.bool true) W := fun W => by kernel_rfl
  have HE := hid (pustep5c (s := s) (f := f) hph hc hd)
  have HPH := hid hph
  have HC := hid hc
  have HD := hid hd
  clear hc hd
  go_enter Try.func28, Try.ntmps28
  go_wp2_with (first | (refine wpList_insert_u8 rfl _ _ _ 107 rfl _ _ Try.underlying107 Try.underlying5 w.heap.size [] (MapAt.new w) 4 (.func (.func 57) #[] #[]) rfl rfl rfl rfl ?_; intro w1 m1 c1) | (refine wpList_insert_u8 rfl _ _ _ 107 rfl _ _ Try.underlying107 Try.underlying5 w.heap.size [(4, .func (.func 57) #[] #[])] m1 5 (.func (.func 58) #[] #[]) rfl rfl rfl rfl ?_; intro w2 m2 c2) | (refine wpList_insert_u8 rfl _ _ _ 107 rfl _ _ Try.underlying107 Try.underlying5 w.heap.size [(4, .func (.func 57) #[] #[]), (5, .func (.func 58) #[] #[])] m2 6 (.func (.func 59) #[] #[]) rfl rfl rfl rfl ?_; intro w3 m3 c3) | (refine wpList_insert_u8 rfl _ _ _ 107 rfl _ _ Try.underlying107 Try.underlying5 w.heap.size [(4, .func (.func 57) #[] #[]), (5, .func (.func 58) #[] #[]), (6, .func (.func 59) #[] #[])] m3 7 (.func (.func 60) #[] #[]) rfl rfl rfl rfl ?_; intro w4 m4 c4; have cW : Ch (fun _ => False) w w4 := ((((((Ch.refl (fun _ => False) w).alloc (.map #[] 0)).trans c1 (fun j hj e => by subst e; omega)).trans c2 (fun j hj e => by subst e; omega)).trans c3 (fun j hj e => by subst e; omega)).trans c4 (fun j hj e => by subst e; omega)); have hqW := cW.blk hq id; have hW := h.keep cW; have hBW : B ≤ w4.heap.size := Nat.le_trans hB cW.size; have a5 : w4.cell? ⟨g, 5, none⟩ = some (.int .u8 5) := (hqW.cell 5).trans (by show some (Value.int .u8 q.ph) = _; rw [hph]); have HCW := hid cW; have HQW := hid hqW; have HW := hid hW; have HM := hid m4; clear cW hqW hW c1 m1 c2 m2 c3 m3 c4 m4) | (refine wpList_lookup_u8 rfl _ _ 107 rfl _ _ Try.underlying107 Try.underlying5 w.heap.size [(4, .func (.func 57) #[] #[]), (5, .func (.func 58) #[] #[]), (6, .func (.func 59) #[] #[]), (7, .func (.func 60) #[] #[])] HM.out 5 .nilFunc (Try.zeroValue106 _) rfl rfl (.func (.func 58) #[] #[]) rfl ?_) | fail)
  refine (u_head_c B p cb qb g lv s f pu q w4 HW.out HQW.out ht hlen hBW HFR.out (by have := HC.out; omega) (by have := HD.out; omega)).mono ?_
  rintro e w5 ⟨rfl, lv', hQ5, hq5, hc5, hf5⟩
  have x5 : w5.cell? ⟨g, 5, none⟩ = some (.int .u8 6) := hq5.cell 5
  have HQ5 := hid hQ5
  have Hq5 := hid hq5
  have Hc5 := hid hc5
  have Hf5 := hid hf5
  clear hQ5 hq5 hc5 hf5 HM
  go_wp2_with fail
  go_quiet (fail)
  go_wp2_with fail
  go_ret2
  rw [HE.out]
  exact ⟨by rw [HPH.out]; rfl, lv', HQ5.out.drewN nq, Hq5.out.drewN nq, ((HCW.out.mono fun _ _ h => h.elim).trans Hc5.out (fun _ _ h => h)).drewN nq, Hf5.out.imp id fun h b hb => Nat.le_trans HCW.out.size (h b hb)⟩

set_option maxRecDepth 100000 in
set_option maxHeartbeats 1000000 in
theorem ustep6a (hph : q.ph = 6) (hc : qT s f = q.fr) : Calls Try.prog 28 #[.pointer (some ⟨g, 0, none⟩)] w (URes B p cb qb g lv f pu q (pustep s f q) w) := by
  have hmm := @run_makeMap Try.prog
  have hfn : ∀ W : World, (binOp .neq 106 (.func (.func 59) #[] #[]) .nilFunc).run Try.prog W = .ok (.bool true) W := fun W => by kernel_rfl
  have HE := hid (pustep6a (s := s) (f := f) hph hc)
  have HPH := hid hph
  have HC := hid hc
  clear hc
  go_enter Try.func28, Try.ntmps28
  go_wp2_with (first | (refine wpList_insert_u8 rfl _ _ _ 107 rfl _ _ Try.underlying107 Try.underlying5 w.heap.size [] (MapAt.new w) 4 (.func (.func 57) #[] #[]) rfl rfl rfl rfl ?_; intro w1 m1 c1) | (refine wpList_insert_u8 rfl _ _ _ 107 rfl _ _ Try.underlying107 Try.underlying5 w.heap.size [(4, .func (.func 57) #[] #[])] m1 5 (.func (.func 58) #[] #[]) rfl rfl rfl rfl ?_; intro w2 m2 c2) | (refine wpList_insert_u8 rfl _ _ _ 107 rfl _ _ Try.underlying107 Try.underlying5 w.heap.size [(4, .func (.func 57) #[] #[]), (5, .func (.func 58) #[] #[])] m2 6 (.func (.func 59) #[] #[]) rfl rfl rfl rfl ?_; intro w3 m3 c3) | (refine wpList_insert_u8 rfl _ _ _ 107 rfl _ _ Try.underlying107 Try.underlying5 w.heap.size [(4, .func (.func 57) #[] #[]), (5, .func (.func 58) #[] #[]), (6, .func (.func 59) #[] #[])] m3 7 (.func (.func 60) #[] #[]) rfl rfl rfl rfl ?_; intro w4 m4 c4; have cW : Ch (fun _ => False) w w4 := ((((((Ch.refl (fun _ => False) w).alloc (.map #[] 0)).trans c1 (fun j hj e => by subst e; omega)).trans c2 (fun j hj e => by subst e; omega)).trans c3 (fun j hj e => by subst e; omega)).trans c4 (fun j hj e => by subst e; omega)); have hqW := cW.blk hq id; have hW := h.keep cW; have hBW : B ≤ w4.heap.size := Nat.le_trans hB cW.size; have a5 : w4.cell? ⟨g, 5, none⟩ = some (.int .u8 6) := (hqW.cell 5).trans (by show some (Value.int .u8 q.ph) = _; rw [hph]); have HCW := hid cW; have HQW := hid hqW; have HW := hid hW; have HM := hid m4; clear cW hqW hW c1 m1 c2 m2 c3 m3 c4 m4) | (refine wpList_lookup_u8 rfl _ _ 107 rfl _ _ Try.underlying107 Try.underlying5 w.heap.size [(4, .func (.func 57) #[] #[]), (5, .func (.func 58) #[] #[]), (6, .func (.func 59) #[] #[]), (7, .func (.func 60) #[] #[])] HM.out 6 .nilFunc (Try.zeroValue106 _) rfl rfl (.func (.func 59) #[] #[]) rfl ?_) | fail)
  refine (u_res_a B p cb qb g lv s f pu q w4 HW.out HQW.out ht hlen hBW HC.out).mono ?_
  rintro e w5 ⟨rfl, lv', hQ5, hq5, hc5, hf5⟩
  have x5 : w5.cell? ⟨g, 5, none⟩ = some (.int .u8 7) := hq5.cell 5
  have HQ5 := hid hQ5
  have Hq5 := hid hq5
  have Hc5 := hid hc5
  have Hf5 := hid hf5
  clear hQ5 hq5 hc5 hf5 HM
  go_wp2_with fail
  go_quiet (fail)
  go_wp2_with fail
  go_ret2
  rw [HE.out]
  exact ⟨by rw [HPH.out]; rfl, lv', HQ5.out.drewN nq, Hq5.out.drewN nq, ((HCW.out.mono fun _ _ h => h.elim).trans Hc5.out (fun _ _ h => h)).drewN nq, Hf5.out.imp id fun h b hb => Nat.le_trans HCW.out.size (h b hb)⟩

set_option maxRecDepth 100000 in
set_option maxHeartbeats 1000000 in
theorem ustep6b (hph : q.ph = 6) (hc : ¬ qT s f = q.fr) : Calls Try.prog 28 #[.pointer (some ⟨g, 0, none⟩)] w (URes B p cb qb g lv f pu q (pustep s f q) w) := by
  have hmm := @run_makeMap Try.prog
  have hfn : ∀ W : World, (binOp .neq 106 (.func (.func 59) #[] #[]) .nilFunc).run Try.prog W = .ok (.bool true) W := fun W => by kernel_rfl
  have HE := hid (pustep6b (s := s) (f := f) hph hc)
  have HPH := hid hph
  have HC := hid hc
  clear hc
  go_enter Try.func28, Try.ntmps28
  go_wp2_with (first | (refine wpList_insert_u8 rfl _ _ _ 107 rfl _ _ Try.underlying107 Try.underlying5 w.heap.size [] (MapAt.new w) 4 (.func (.func 57) #[] #[]) rfl rfl rfl rfl ?_; intro w1 m1 c1) | (refine wpList_insert_u8 rfl _ _ _ 107 rfl _ _ Try.underlying107 Try.underlying5 w.heap.size [(4, .func (.func 57) #[] #[])] m1 5 (.func (.func 58) #[] #[]) rfl rfl rfl rfl ?_; intro w2 m2 c2) | (refine wpList_insert_u8 rfl _ _ _ 107 rfl _ _ Try.underlying107 Try.underlying5 w.heap.size [(4, .func (.func 57) #[] #[]), (5, .func (.func 58) #[] #[])] m2 6 (.func (.func 59) #[] #[]) rfl rfl rfl rfl ?_; intro w3 m3 c3) | (refine wpList_insert_u8 rfl _ _ _ 107 rfl _ _ Try.underlying107 Try.underlying5 w.heap.size [(4, .func (.func 57) #[] #[]), (5, .func (.func 58) #[] #[]), (6, .func (.func 59) #[] #[])] m3 7 (.func (.func 60) #[] #[]) rfl rfl rfl rfl ?_; intro w4 m4 c4; have cW : Ch (fun _ => False) w w4 := ((((((Ch.refl (fun _ => False) w).alloc (.map #[] 0)).trans c1 (fun j hj e => by subst e; omega)).trans c2 (fun j hj e => by subst e; omega)).trans c3 (fun j hj e => by subst e; omega)).trans c4 (fun j hj e => by subst e; omega)); have hqW := cW.blk hq id; have hW := h.keep cW; have hBW : B ≤ w4.heap.size := Nat.le_trans hB cW.size; have a5 : w4.cell? ⟨g, 5, none⟩ = some (.int .u8 6) := (hqW.cell 5).trans (by show some (Value.int .u8 q.ph) = _; rw [hph]); have HCW := hid cW; have HQW := hid hqW; have HW := hid hW; have HM := hid m4; clear cW hqW hW c1 m1 c2 m2 c3 m3 c4 m4) | (refine wpList_lookup_u8 rfl _ _ 107 rfl _ _ Try.underlying107 Try.underlying5 w.heap.size [(4, .func (.func 57) #[] #[]), (5, .func (.func 58) #[] #[]), (6, .func (.func 59) #[] #[]), (7, .func (.func 60) #[] #[])] HM.out 6 .nilFunc (Try.zeroValue106 _) rfl rfl (.func (.func 59) #[] #[]) rfl ?_) | fail)
  refine (u_res_b B p cb qb g lv s f pu q w4 HW.out HQW.out ht hlen hBW HC.out).mono ?_
  rintro e w5 ⟨rfl, lv', hQ5, hq5, hc5, hf5⟩
  have x5 : w5.cell? ⟨g, 5, none⟩ = some (.int .u8 4) := hq5.cell 5
  have HQ5 := hid hQ5
  have Hq5 := hid hq5
  have Hc5 := hid hc5
  have Hf5 := hid hf5
  clear hQ5 hq5 hc5 hf5 HM
  go_wp2_with fail
  go_quiet (fail)
  go_wp2_with fail
  go_ret2
  rw [HE.out]
  exact ⟨by rw [HPH.out]; rfl, lv', HQ5.out.drewN nq, Hq5.out.drewN nq, ((HCW.out.mono fun _ _ h => h.elim).trans Hc5.out (fun _ _ h => h)).drewN nq, Hf5.out.imp id fun h b hb => Nat.le_trans HCW.out.size (h b hb)⟩

set_option maxRecDepth 100000 in
set_option maxHeartbeats 1000000 in
theorem ustep7 (hph : q.ph = 7) (HV : Hid (0 ≤ q.v ∧ q.v < 18446744073709551616)) (HFR : Hid (0 ≤ q.fr ∧ q.fr < 18446744073709551616)) : Calls Try.prog 28 #[.pointer (some ⟨g, 0, none⟩)] w (URes B p cb qb g lv f pu q (pustep s f q) w) := by
  have hmm := @run_makeMap Try.prog
  have hfn : ∀ W : World, (binOp .neq 106 (.func (.func 60) #[] #[]) .nilFunc).run Try.prog W = .ok (.bool true) W := fun W => by kernel_rfl
  have HE := hid (pustep7 (s := s) (f := f) hph)
  have HPH := hid hph
  go_enter Try.func28, Try.ntmps28
  go_wp2_with (first | (refine wpList_insert_u8 rfl _ _ _ 107 rfl _ _ Try.underlying107 Try.underlying5 w.heap.size [] (MapAt.new w) 4 (.func (.func 57) #[] #[]) rfl rfl rfl rfl ?_; intro w1 m1 c1) | (refine wpList_insert_u8 rfl _ _ _ 107 rfl _ _ Try.underlying107 Try.underlying5 w.heap.size [(4, .func (.func 57) #[] #[])] m1 5 (.func (.func 58) #[] #[]) rfl rfl rfl rfl ?_; intro w2 m2 c2) | (refine wpList_insert_u8 rfl _ _ _ 107 rfl _ _ Try.underlying107 Try.underlying5 w.heap.size [(4, .func (.func 57) #[] #[]), (5, .func (.func 58) #[] #[])] m2 6 (.func (.func 59) #[] #[]) rfl rfl rfl rfl ?_; intro w3 m3 c3) | (refine wpList_insert_u8 rfl _ _ _ 107 rfl _ _ Try.underlying107 Try.underlying5 w.heap.size [(4, .func (.func 57) #[] #[]), (5, .func (.func 58) #[] #[]), (6, .func (.func 59) #[] #[])] m3 7 (.func (.func 60) #[] #[]) rfl rfl rfl rfl ?_; intro w4 m4 c4; have cW : Ch (fun _ => False) w w4 := ((((((Ch.refl (fun _ => False) w).alloc (.map #[] 0)).trans c1 (fun j hj e => by subst e; omega)).trans c2 (fun j hj e => by subst e; omega)).trans c3 (fun j hj e => by subst e; omega)).trans c4 (fun j hj e => by subst e; omega)); have hqW := cW.blk hq id; have hW := h.keep cW; have hBW : B ≤ w4.heap.size := Nat.le_trans hB cW.size; have a5 : w4.cell? ⟨g, 5, none⟩ = some (.int .u8 7) := (hqW.cell 5).trans (by show some (Value.int .u8 q.ph) = _; rw [hph]); have HCW := hid cW; have HQW := hid hqW; have HW := hid hW; have HM := hid m4; clear cW hqW hW c1 m1 c2 m2 c3 m3 c4 m4) | (refine wpList_lookup_u8 rfl _ _ 107 rfl _ _ Try.underlying107 Try.underlying5 w.heap.size [(4, .func (.func 57) #[] #[]), (5, .func (.func 58) #[] #[]), (6, .func (.func 59) #[] #[]), (7, .func (.func 60) #[] #[])] HM.out 7 .nilFunc (Try.zeroValue106 _) rfl rfl (.func (.func 60) #[] #[]) rfl ?_) | fail)
  refine (u_enter B p cb qb g lv s f pu q w4 HW.out HQW.out ht hlen hBW HV.out HFR.out).mono ?_
  rintro e w5 ⟨rfl, lv', hQ5, hq5, hc5, hf5⟩
  have x5 : w5.cell? ⟨g, 5, none⟩ = some (.int .u8 0) := hq5.cell 5
  have HQ5 := hid hQ5
  have Hq5 := hid hq5
  have Hc5 := hid hc5
  have Hf5 := hid hf5
  clear hQ5 hq5 hc5 hf5 HM
  go_wp2_with fail
  go_quiet (fail)
  go_wp2_with fail
  go_ret2
  rw [HE.out]
  exact ⟨by rw [HPH.out]; rfl, lv', HQ5.out.drewN nq, Hq5.out.drewN nq, ((HCW.out.mono fun _ _ h => h.elim).trans Hc5.out (fun _ _ h => h)).drewN nq, Hf5.out.imp id fun h b hb => Nat.le_trans HCW.out.size (h b hb)⟩

set_option maxRecDepth 100000 in
set_option maxHeartbeats 1000000 in
theorem ustep0 (hph : q.ph = 0) : Calls Try.prog 28 #[.pointer (some ⟨g, 0, none⟩)] w (URes B p cb qb g lv f pu q (s, q) w) := by
  have hmm := @run_makeMap Try.prog
  have hfn : ∀ W : World, (binOp .neq 106 .nilFunc .nilFunc).run Try.prog W = .ok (.bool false) W := fun W => by kernel_rfl
  have HPH := hid hph
  go_enter Try.func28, Try.ntmps28
  go_wp2_with (first | (refine wpList_insert_u8 rfl _ _ _ 107 rfl _ _ Try.underlying107 Try.underlying5 w.heap.size [] (MapAt.new w) 4 (.func (.func 57) #[] #[]) rfl rfl rfl rfl ?_; intro w1 m1 c1) | (refine wpList_insert_u8 rfl _ _ _ 107 rfl _ _ Try.underlying107 Try.underlying5 w.heap.size [(4, .func (.func 57) #[] #[])] m1 5 (.func (.func 58) #[] #[]) rfl rfl rfl rfl ?_; intro w2 m2 c2) | (refine wpList_insert_u8 rfl _ _ _ 107 rfl _ _ Try.underlying107 Try.underlying5 w.heap.size [(4, .func (.func 57) #[] #[]), (5, .func (.func 58) #[] #[])] m2 6 (.func (.func 59) #[] #[]) rfl rfl rfl rfl ?_; intro w3 m3 c3) | (refine wpList_insert_u8 rfl _ _ _ 107 rfl _ _ Try.underlying107 Try.underlying5 w.heap.size [(4, .func (.func 57) #[] #[]), (5, .func (.func 58) #[] #[]), (6, .func (.func 59) #[] #[])] m3 7 (.func (.func 60) #[] #[]) rfl rfl rfl rfl ?_; intro w4 m4 c4; have cW : Ch (fun _ => False) w w4 := ((((((Ch.refl (fun _ => False) w).alloc (.map #[] 0)).trans c1 (fun j hj e => by subst e; omega)).trans c2 (fun j hj e => by subst e; omega)).trans c3 (fun j hj e => by subst e; omega)).trans c4 (fun j hj e => by subst e; omega)); have hqW := cW.blk hq id; have hW := h.keep cW; have hBW : B ≤ w4.heap.size := Nat.le_trans hB cW.size; have a5 : w4.cell? ⟨g, 5, none⟩ = some (.int .u8 0) := (hqW.cell 5).trans (by show some (Value.int .u8 q.ph) = _; rw [hph]); have HCW := hid cW; have HQW := hid hqW; have HW := hid hW; have HM := hid m4; clear cW hqW hW c1 m1 c2 m2 c3 m3 c4 m4) | (refine wpList_lookup_u8 rfl _ _ 107 rfl _ _ Try.underlying107 Try.underlying5 w.heap.size [(4, .func (.func 57) #[] #[]), (5, .func (.func 58) #[] #[]), (6, .func (.func 59) #[] #[]), (7, .func (.func 60) #[] #[])] HM.out 0 .nilFunc (Try.zeroValue106 _) rfl rfl .nilFunc rfl ?_) | fail)
  go_quiet (fail)
  go_wp2_with fail
  go_ret2
  exact ⟨by rw [HPH.out]; rfl, lv, HW.out.drewN nq, HQW.out.drewN nq, (HCW.out.mono fun _ _ h => h.elim).drewN nq, .inl rfl⟩
end

/-- A step of a push. -/
theorem ustep_any (B p cb qb g : Nat) (lv : Value) (s : BS) (f : Qd) (pu : Value) (q : Pu) (w : World) (h : QueueM B w p cb qb lv s f pu) (hq : Blk w g 105 (puCells qb q)) (ht : 0 ≤ q.t ∧ q.t < 16) (hlen : s.lg.length < 1000000) (hB : B ≤ w.heap.size)
    (hv : 0 ≤ q.v ∧ q.v < 18446744073709551616) (hfr : 0 ≤ q.fr ∧ q.fr < 18446744073709551616) (hph : q.ph = 0 ∨ q.ph = 4 ∨ q.ph = 5 ∨ q.ph = 6 ∨ q.ph = 7) : Calls Try.prog 28 #[.pointer (some ⟨g, 0, none⟩)] w (URes B p cb qb g lv f pu q (pustep s f q) w) := by
  rcases hph with e | e | e | e | e
  · have : pustep s f q = (s, q) := by unfold pustep; rw [if_neg (by rw [e]; decide), if_neg (by rw [e]; decide), if_neg (by rw [e]; decide), if_neg (by rw [e]; decide)]
    rw [this]
    exact ustep0 B p cb qb g lv s f pu q w h hq ht hlen hB e
  · exact ustep4 B p cb qb g lv s f pu q w h hq ht hlen hB e
  · by_cases hc : q.fr < qH s f
    · exact ustep5a B p cb qb g lv s f pu q w h hq ht hlen hB e hc
    · by_cases hd : (f.n : Int) ≤ q.fr - qH s f
      · exact ustep5b B p cb qb g lv s f pu q w h hq ht hlen hB e (hid hfr.2) hc hd
      · exact ustep5c B p cb qb g lv s f pu q w h hq ht hlen hB e (hid hfr.2) hc hd
  · by_cases hc : qT s f = q.fr
    · exact ustep6a B p cb qb g lv s f pu q w h hq ht hlen hB e hc
    · exact ustep6b B p cb qb g lv s f pu q w h hq ht hlen hB e hc
  · exact ustep7 B p cb qb g lv s f pu q w h hq ht hlen hB e (hid hv) (hid hfr)
end Go.Proofs.Ytpkjjlahmjijnaa
