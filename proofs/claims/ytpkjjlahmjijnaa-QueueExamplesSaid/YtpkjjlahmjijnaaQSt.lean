/- The queue: the steps of a push. -/
import Derived.Test.YtpkjjlahmjijnaaQM
namespace Go.Proofs.Ytpkjjlahmjijnaa
open Go.RowKit
set_option linter.unusedVariables false
set_option linter.unusedSimpArgs false
set_option linter.unusedSectionVars false

section
variable (B p cb qb g : Nat) (lv : Value) (s : BS) (f : Qd) (pu : Value) (q : Pu) (w : World) (h : QueueM B w p cb qb lv s f pu) (hq : Blk w g 105 (puCells qb q)) (ht : 0 ≤ q.t ∧ q.t < 16) (hlen : s.lg.length < 1000000) (hB : B ≤ w.heap.size)
include h hq ht hlen hB

set_option maxRecDepth 100000 in
set_option maxHeartbeats 1000000 in
theorem u_tail : Calls Try.prog 57 #[.pointer (some ⟨g, 0, none⟩)] w (SRes B p cb qb g 105 lv f pu (s.load q.t f.tail) (puCells qb { q with fr := qT s f, ph := 5 }) w) := by
  have a0 : w.cell? ⟨g, 0, none⟩ = some (.pointer (some ⟨qb, 0, none⟩)) := hq.cell 0
  have a1 : w.cell? ⟨g, 1, none⟩ = some (.int .i64 q.t) := hq.cell 1
  have a2 : w.cell? ⟨g, 2, none⟩ = some (.int .u64 q.v) := hq.cell 2
  have a3 : w.cell? ⟨g, 3, none⟩ = some (.int .u64 q.fr) := hq.cell 3
  have a4 : w.cell? ⟨g, 4, none⟩ = some (.int .u64 q.sn) := hq.cell 4
  have a5 : w.cell? ⟨g, 5, none⟩ = some (.int .u8 q.ph) := hq.cell 5
  have a6 : w.cell? ⟨g, 6, none⟩ = some (.int .i64 q.er) := hq.cell 6
  have b0 : w.cell? ⟨qb, 0, none⟩ = some (.pointer (some ⟨p, 0, none⟩)) := h.fd.cell 0
  have b1 : w.cell? ⟨qb, 1, none⟩ = some (.int .i64 f.head) := h.fd.cell 1
  have b2 : w.cell? ⟨qb, 2, none⟩ = some (.int .i64 f.tail) := h.fd.cell 2
  have b3 : w.cell? ⟨qb, 3, none⟩ = some (.int .i64 f.ring) := h.fd.cell 3
  have b4 : w.cell? ⟨qb, 4, none⟩ = some (.int .u64 f.n) := h.fd.cell 4
  have fa3 := hq.free 3
  have fa5 := hq.free 5
  have hn := h.hn
  have hkh := h.ok.h
  have hkt := h.ok.t
  have hkr := h.ok.r
  have hn1 := h.ok.n1
  have hn2 := h.ok.n2
  go_enter Try.func57, Try.ntmps57
  go_wp2_with fail
  refine Mix.wp_region_mix (fun _ => True) (fun i => ([1, 0, 0, 0, 0, 0, 0, 0, 0, 0, 0, 0, 0, 0, 0, 0, 0, 0, 0, 2, 0, 0, 1, 0, 0, 2] : List Nat).getD i 0) [0, 1, 2, 3, 4, 5, 6, 7, 8, 9, 10, 11, 12, 13, 14, 15, 16, 17, 18, 19, 20, 21, 22, 23, 24, 25] (by kernel_rfl) (by kernel_rfl) ?_
  repeat (first | (refine Mix.mix_q (by simp only [List.getElem?_toArray, List.getElem?_cons_zero, List.getElem?_cons_succ]; exact rfl) rfl ?_; go_big_quiet_step (fail); refine wpQuiet_nil ?_) | (refine Mix.mix_p (by simp only [List.getElem?_toArray, List.getElem?_cons_zero, List.getElem?_cons_succ]; exact rfl) rfl rfl ?_; go_big_quiet_step (fail); refine wpQuiet_nil ?_))
  refine Mix.mix_e (by simp only [List.getElem?_toArray, List.getElem?_cons_zero, List.getElem?_cons_succ]; exact rfl) rfl fun W hW => ?_
  obtain ⟨n1, rfl⟩ := hW
  go_wp2_with fail
  refine (load_ok B p cb lv s q.t (f.tail : Nat) _ (bank_drew h.b n1) ⟨ht.1, ht.2, by omega, by omega⟩ hlen hB).mono ?_
  rintro e w1 ⟨rfl, hs1⟩
  obtain ⟨lv', hb1, hc1, hf1, hfd, hqd⟩ := qafter h hq hs1
  clear a0 a1 a2 a3 a4 a5 a6 b0 b1 b2 b3 b4 fa3 fa5
  have a0 : w1.cell? ⟨g, 0, none⟩ = some (.pointer (some ⟨qb, 0, none⟩)) := hqd.cell 0
  have a1 : w1.cell? ⟨g, 1, none⟩ = some (.int .i64 q.t) := hqd.cell 1
  have a3 : w1.cell? ⟨g, 3, none⟩ = some (.int .u64 q.fr) := hqd.cell 3
  have a5 : w1.cell? ⟨g, 5, none⟩ = some (.int .u8 q.ph) := hqd.cell 5
  have b1 : w1.cell? ⟨qb, 1, none⟩ = some (.int .i64 f.head) := hfd.cell 1
  have b2 : w1.cell? ⟨qb, 2, none⟩ = some (.int .i64 f.tail) := hfd.cell 2
  have b4 : w1.cell? ⟨qb, 4, none⟩ = some (.int .u64 f.n) := hfd.cell 4
  have fa3 := hqd.free 3
  have fa5 := hqd.free 5
  have hne := hfd.ne hqd (by decide)
  have hne' := Ne.symm hne
  have Hb1 := hid hb1
  have Hc1 := hid hc1
  have Hf1 := hid hf1
  have Hfd := hid hfd
  have Hqd := hid hqd
  clear hs1 hb1 hc1 hf1 hfd hqd
  rw [Int.toNat_natCast]
  go_wp2_with fail
  repeat (first | (refine Mix.mix_q (by simp only [List.getElem?_toArray, List.getElem?_cons_zero, List.getElem?_cons_succ]; exact rfl) rfl ?_; go_big_quiet_step (fail); refine wpQuiet_nil ?_) | (refine Mix.mix_p (by simp only [List.getElem?_toArray, List.getElem?_cons_zero, List.getElem?_cons_succ]; exact rfl) rfl rfl ?_; go_big_quiet_step (fail); refine wpQuiet_nil ?_))
  refine Mix.mix_e (by simp only [List.getElem?_toArray, List.getElem?_cons_zero, List.getElem?_cons_succ]; exact rfl) rfl fun W2 hW2 => ?_
  obtain ⟨n2, rfl⟩ := hW2
  go_wp2_with fail
  intro n3
  go_wp2_with fail
  go_end0
  exact sres_close h Hb1.out Hc1.out Hf1.out Hfd.out Hqd.out rfl (((((Ch.refl (fun b => b = g) w1).drewN n2).set (fun _ => rfl) _).drewN n3).set (fun _ => rfl) _) ((((Hqd.out.drewN n2).put 3 (.int .u64 (lk s.vs f.tail))).drewN n3).put 5 (.int .u8 5))

set_option maxRecDepth 100000 in
set_option maxHeartbeats 1000000 in
theorem u_head_a (hc : q.fr < qH s f) : Calls Try.prog 58 #[.pointer (some ⟨g, 0, none⟩)] w (SRes B p cb qb g 105 lv f pu (s.load q.t f.head) (puCells qb { q with sn := qH s f, ph := 4 }) w) := by
  have a0 : w.cell? ⟨g, 0, none⟩ = some (.pointer (some ⟨qb, 0, none⟩)) := hq.cell 0
  have a1 : w.cell? ⟨g, 1, none⟩ = some (.int .i64 q.t) := hq.cell 1
  have a2 : w.cell? ⟨g, 2, none⟩ = some (.int .u64 q.v) := hq.cell 2
  have a3 : w.cell? ⟨g, 3, none⟩ = some (.int .u64 q.fr) := hq.cell 3
  have a4 : w.cell? ⟨g, 4, none⟩ = some (.int .u64 q.sn) := hq.cell 4
  have a5 : w.cell? ⟨g, 5, none⟩ = some (.int .u8 q.ph) := hq.cell 5
  have a6 : w.cell? ⟨g, 6, none⟩ = some (.int .i64 q.er) := hq.cell 6
  have b0 : w.cell? ⟨qb, 0, none⟩ = some (.pointer (some ⟨p, 0, none⟩)) := h.fd.cell 0
  have b1 : w.cell? ⟨qb, 1, none⟩ = some (.int .i64 f.head) := h.fd.cell 1
  have b2 : w.cell? ⟨qb, 2, none⟩ = some (.int .i64 f.tail) := h.fd.cell 2
  have b3 : w.cell? ⟨qb, 3, none⟩ = some (.int .i64 f.ring) := h.fd.cell 3
  have b4 : w.cell? ⟨qb, 4, none⟩ = some (.int .u64 f.n) := h.fd.cell 4
  have fa4 := hq.free 4
  have fa5 := hq.free 5
  have fa6 := hq.free 6
  have hn := h.hn
  have hkh := h.ok.h
  have hkt := h.ok.t
  have hkr := h.ok.r
  have hn1 := h.ok.n1
  have hn2 := h.ok.n2
  have hv : decide (q.fr < lk s.vs f.head) = true := decide_eq_true hc
  clear hc
  go_enter Try.func58, Try.ntmps58
  go_wp2_with fail
  refine Mix.wp_region_mix (fun _ => True) (fun i => ([1, 0, 0, 0, 0, 0, 0, 0, 0, 0, 0, 0, 0, 0, 0, 0, 0, 0, 0, 2, 0, 0, 1, 0, 0, 2] : List Nat).getD i 0) [0, 1, 2, 3, 4, 5, 6, 7, 8, 9, 10, 11, 12, 13, 14, 15, 16, 17, 18, 19, 20, 21, 22, 23, 24, 25] (by kernel_rfl) (by kernel_rfl) ?_
  repeat (first | (refine Mix.mix_q (by simp only [List.getElem?_toArray, List.getElem?_cons_zero, List.getElem?_cons_succ]; exact rfl) rfl ?_; go_big_quiet_step (fail); refine wpQuiet_nil ?_) | (refine Mix.mix_p (by simp only [List.getElem?_toArray, List.getElem?_cons_zero, List.getElem?_cons_succ]; exact rfl) rfl rfl ?_; go_big_quiet_step (fail); refine wpQuiet_nil ?_))
  refine Mix.mix_e (by simp only [List.getElem?_toArray, List.getElem?_cons_zero, List.getElem?_cons_succ]; exact rfl) rfl fun W hW => ?_
  obtain ⟨n1, rfl⟩ := hW
  go_wp2_with fail
  refine (load_ok B p cb lv s q.t (f.head : Nat) _ (bank_drew h.b n1) ⟨ht.1, ht.2, by omega, by omega⟩ hlen hB).mono ?_
  rintro e w1 ⟨rfl, hs1⟩
  obtain ⟨lv', hb1, hc1, hf1, hfd, hqd⟩ := qafter h hq hs1
  clear a0 a1 a2 a3 a4 a5 a6 b0 b1 b2 b3 b4 fa4 fa5 fa6
  have a0 : w1.cell? ⟨g, 0, none⟩ = some (.pointer (some ⟨qb, 0, none⟩)) := hqd.cell 0
  have a1 : w1.cell? ⟨g, 1, none⟩ = some (.int .i64 q.t) := hqd.cell 1
  have a3 : w1.cell? ⟨g, 3, none⟩ = some (.int .u64 q.fr) := hqd.cell 3
  have a4 : w1.cell? ⟨g, 4, none⟩ = some (.int .u64 q.sn) := hqd.cell 4
  have a5 : w1.cell? ⟨g, 5, none⟩ = some (.int .u8 q.ph) := hqd.cell 5
  have a6 : w1.cell? ⟨g, 6, none⟩ = some (.int .i64 q.er) := hqd.cell 6
  have b1 : w1.cell? ⟨qb, 1, none⟩ = some (.int .i64 f.head) := hfd.cell 1
  have b2 : w1.cell? ⟨qb, 2, none⟩ = some (.int .i64 f.tail) := hfd.cell 2
  have b4 : w1.cell? ⟨qb, 4, none⟩ = some (.int .u64 f.n) := hfd.cell 4
  have fa4 := hqd.free 4
  have fa5 := hqd.free 5
  have fa6 := hqd.free 6
  have hne := hfd.ne hqd (by decide)
  have hne' := Ne.symm hne
  have Hb1 := hid hb1
  have Hc1 := hid hc1
  have Hf1 := hid hf1
  have Hfd := hid hfd
  have Hqd := hid hqd
  clear hs1 hb1 hc1 hf1 hfd hqd
  rw [Int.toNat_natCast]
  go_wp2_with fail
  repeat (first | (refine Mix.mix_q (by simp only [List.getElem?_toArray, List.getElem?_cons_zero, List.getElem?_cons_succ]; exact rfl) rfl ?_; go_big_quiet_step (fail); refine wpQuiet_nil ?_) | (refine Mix.mix_p (by simp only [List.getElem?_toArray, List.getElem?_cons_zero, List.getElem?_cons_succ]; exact rfl) rfl rfl ?_; go_big_quiet_step (fail); refine wpQuiet_nil ?_))
  refine Mix.mix_e (by simp only [List.getElem?_toArray, List.getElem?_cons_zero, List.getElem?_cons_succ]; exact rfl) rfl fun W2 hW2 => ?_
  obtain ⟨n2, rfl⟩ := hW2
  go_wp2_with fail
  intro n3
  go_wp2_with fail
  go_quiet (fail)
  go_wp2_with fail
  go_end0
  exact sres_close h Hb1.out Hc1.out Hf1.out Hfd.out Hqd.out rfl (((((Ch.refl (fun b => b = g) w1).drewN n2).set (fun _ => rfl) _).drewN (n3 + nq)).set (fun _ => rfl) _) ((((Hqd.out.drewN n2).put 4 (.int .u64 (lk s.vs f.head))).drewN (n3 + nq)).put 5 (.int .u8 4))

set_option maxRecDepth 100000 in
set_option maxHeartbeats 1000000 in
theorem u_head_b (hfr : q.fr < 18446744073709551616) (hc : ¬ q.fr < qH s f) (hd : (f.n : Int) ≤ q.fr - qH s f) : Calls Try.prog 58 #[.pointer (some ⟨g, 0, none⟩)] w (SRes B p cb qb g 105 lv f pu (s.load q.t f.head) (puCells qb { q with sn := qH s f, ph := 0, er := 14 }) w) := by
  have a0 : w.cell? ⟨g, 0, none⟩ = some (.pointer (some ⟨qb, 0, none⟩)) := hq.cell 0
  have a1 : w.cell? ⟨g, 1, none⟩ = some (.int .i64 q.t) := hq.cell 1
  have a2 : w.cell? ⟨g, 2, none⟩ = some (.int .u64 q.v) := hq.cell 2
  have a3 : w.cell? ⟨g, 3, none⟩ = some (.int .u64 q.fr) := hq.cell 3
  have a4 : w.cell? ⟨g, 4, none⟩ = some (.int .u64 q.sn) := hq.cell 4
  have a5 : w.cell? ⟨g, 5, none⟩ = some (.int .u8 q.ph) := hq.cell 5
  have a6 : w.cell? ⟨g, 6, none⟩ = some (.int .i64 q.er) := hq.cell 6
  have b0 : w.cell? ⟨qb, 0, none⟩ = some (.pointer (some ⟨p, 0, none⟩)) := h.fd.cell 0
  have b1 : w.cell? ⟨qb, 1, none⟩ = some (.int .i64 f.head) := h.fd.cell 1
  have b2 : w.cell? ⟨qb, 2, none⟩ = some (.int .i64 f.tail) := h.fd.cell 2
  have b3 : w.cell? ⟨qb, 3, none⟩ = some (.int .i64 f.ring) := h.fd.cell 3
  have b4 : w.cell? ⟨qb, 4, none⟩ = some (.int .u64 f.n) := h.fd.cell 4
  have fa4 := hq.free 4
  have fa5 := hq.free 5
  have fa6 := hq.free 6
  have hn := h.hn
  have hkh := h.ok.h
  have hkt := h.ok.t
  have hkr := h.ok.r
  have hn1 := h.ok.n1
  have hn2 := h.ok.n2
  have lh := lk_bd h.b.hv f.head
  have hw : IntKind.u64.wrap (q.fr - lk s.vs f.head) = q.fr - lk s.vs f.head := by rw [w64_wrap]; unfold w64; have : q.fr - lk s.vs f.head ≥ 0 := by { have : qH s f = lk s.vs f.head := rfl; omega }; omega
  have hv : decide (q.fr < lk s.vs f.head) = false := decide_eq_false hc
  have hv2 : decide ((f.n : Int) ≤ q.fr - lk s.vs f.head) = true := decide_eq_true hd
  clear hc hd hfr
  go_enter Try.func58, Try.ntmps58
  go_wp2_with fail
  refine Mix.wp_region_mix (fun _ => True) (fun i => ([1, 0, 0, 0, 0, 0, 0, 0, 0, 0, 0, 0, 0, 0, 0, 0, 0, 0, 0, 2, 0, 0, 1, 0, 0, 2] : List Nat).getD i 0) [0, 1, 2, 3, 4, 5, 6, 7, 8, 9, 10, 11, 12, 13, 14, 15, 16, 17, 18, 19, 20, 21, 22, 23, 24, 25] (by kernel_rfl) (by kernel_rfl) ?_
  repeat (first | (refine Mix.mix_q (by simp only [List.getElem?_toArray, List.getElem?_cons_zero, List.getElem?_cons_succ]; exact rfl) rfl ?_; go_big_quiet_step (fail); refine wpQuiet_nil ?_) | (refine Mix.mix_p (by simp only [List.getElem?_toArray, List.getElem?_cons_zero, List.getElem?_cons_succ]; exact rfl) rfl rfl ?_; go_big_quiet_step (fail); refine wpQuiet_nil ?_))
  refine Mix.mix_e (by simp only [List.getElem?_toArray, List.getElem?_cons_zero, List.getElem?_cons_succ]; exact rfl) rfl fun W hW => ?_
  obtain ⟨n1, rfl⟩ := hW
  go_wp2_with fail
  refine (load_ok B p cb lv s q.t (f.head : Nat) _ (bank_drew h.b n1) ⟨ht.1, ht.2, by omega, by omega⟩ hlen hB).mono ?_
  rintro e w1 ⟨rfl, hs1⟩
  obtain ⟨lv', hb1, hc1, hf1, hfd, hqd⟩ := qafter h hq hs1
  clear a0 a1 a2 a3 a4 a5 a6 b0 b1 b2 b3 b4 fa4 fa5 fa6
  have a0 : w1.cell? ⟨g, 0, none⟩ = some (.pointer (some ⟨qb, 0, none⟩)) := hqd.cell 0
  have a1 : w1.cell? ⟨g, 1, none⟩ = some (.int .i64 q.t) := hqd.cell 1
  have a3 : w1.cell? ⟨g, 3, none⟩ = some (.int .u64 q.fr) := hqd.cell 3
  have a4 : w1.cell? ⟨g, 4, none⟩ = some (.int .u64 q.sn) := hqd.cell 4
  have a5 : w1.cell? ⟨g, 5, none⟩ = some (.int .u8 q.ph) := hqd.cell 5
  have a6 : w1.cell? ⟨g, 6, none⟩ = some (.int .i64 q.er) := hqd.cell 6
  have b1 : w1.cell? ⟨qb, 1, none⟩ = some (.int .i64 f.head) := hfd.cell 1
  have b2 : w1.cell? ⟨qb, 2, none⟩ = some (.int .i64 f.tail) := hfd.cell 2
  have b4 : w1.cell? ⟨qb, 4, none⟩ = some (.int .u64 f.n) := hfd.cell 4
  have fa4 := hqd.free 4
  have fa5 := hqd.free 5
  have fa6 := hqd.free 6
  have hne := hfd.ne hqd (by decide)
  have hne' := Ne.symm hne
  have Hb1 := hid hb1
  have Hc1 := hid hc1
  have Hf1 := hid hf1
  have Hfd := hid hfd
  have Hqd := hid hqd
  clear hs1 hb1 hc1 hf1 hfd hqd
  rw [Int.toNat_natCast]
  go_wp2_with fail
  repeat (first | (refine Mix.mix_q (by simp only [List.getElem?_toArray, List.getElem?_cons_zero, List.getElem?_cons_succ]; exact rfl) rfl ?_; go_big_quiet_step (fail); refine wpQuiet_nil ?_) | (refine Mix.mix_p (by simp only [List.getElem?_toArray, List.getElem?_cons_zero, List.getElem?_cons_succ]; exact rfl) rfl rfl ?_; go_big_quiet_step (fail); refine wpQuiet_nil ?_))
  refine Mix.mix_e (by simp only [List.getElem?_toArray, List.getElem?_cons_zero, List.getElem?_cons_succ]; exact rfl) rfl fun W2 hW2 => ?_
  obtain ⟨n2, rfl⟩ := hW2
  go_wp2_with fail
  intro n3
  go_wp2_with fail
  go_quiet (fail)
  go_wp2_with fail
  refine Mix.wp_region_mix (fun _ => True) (fun i => ([0, 0, 0, 0, 0, 0, 0, 0, 0, 0, 0, 0, 0, 0, 0, 0, 0, 0] : List Nat).getD i 0) [0, 1, 2, 3, 4, 5, 6, 7, 8, 9, 10, 11, 12, 13, 14, 15, 16, 17] (by kernel_rfl) (by kernel_rfl) ?_
  repeat (refine Mix.mix_q (by simp only [List.getElem?_toArray, List.getElem?_cons_zero, List.getElem?_cons_succ]; exact rfl) rfl ?_; go_big_quiet_step (fail); refine wpQuiet_nil ?_)
  intro n5
  go_wp2_with fail
  go_end0
  exact sres_close h Hb1.out Hc1.out Hf1.out Hfd.out Hqd.out rfl ((((((Ch.refl (fun b => b = g) w1).drewN n2).set (fun _ => rfl) _).drewN (n3 + nq + n5)).set (fun _ => rfl) _).set (fun _ => rfl) _) (((((Hqd.out.drewN n2).put 4 (.int .u64 (lk s.vs f.head))).drewN (n3 + nq + n5)).put 5 (.int .u8 0)).put 6 (.int .i64 14))

set_option maxRecDepth 100000 in
set_option maxHeartbeats 1000000 in
theorem u_head_c (hfr : q.fr < 18446744073709551616) (hc : ¬ q.fr < qH s f) (hd : ¬ (f.n : Int) ≤ q.fr - qH s f) : Calls Try.prog 58 #[.pointer (some ⟨g, 0, none⟩)] w (SRes B p cb qb g 105 lv f pu (s.load q.t f.head) (puCells qb { q with sn := qH s f, ph := 6 }) w) := by
  have a0 : w.cell? ⟨g, 0, none⟩ = some (.pointer (some ⟨qb, 0, none⟩)) := hq.cell 0
  have a1 : w.cell? ⟨g, 1, none⟩ = some (.int .i64 q.t) := hq.cell 1
  have a2 : w.cell? ⟨g, 2, none⟩ = some (.int .u64 q.v) := hq.cell 2
  have a3 : w.cell? ⟨g, 3, none⟩ = some (.int .u64 q.fr) := hq.cell 3
  have a4 : w.cell? ⟨g, 4, none⟩ = some (.int .u64 q.sn) := hq.cell 4
  have a5 : w.cell? ⟨g, 5, none⟩ = some (.int .u8 q.ph) := hq.cell 5
  have a6 : w.cell? ⟨g, 6, none⟩ = some (.int .i64 q.er) := hq.cell 6
  have b0 : w.cell? ⟨qb, 0, none⟩ = some (.pointer (some ⟨p, 0, none⟩)) := h.fd.cell 0
  have b1 : w.cell? ⟨qb, 1, none⟩ = some (.int .i64 f.head) := h.fd.cell 1
  have b2 : w.cell? ⟨qb, 2, none⟩ = some (.int .i64 f.tail) := h.fd.cell 2
  have b3 : w.cell? ⟨qb, 3, none⟩ = some (.int .i64 f.ring) := h.fd.cell 3
  have b4 : w.cell? ⟨qb, 4, none⟩ = some (.int .u64 f.n) := h.fd.cell 4
  have fa4 := hq.free 4
  have fa5 := hq.free 5
  have fa6 := hq.free 6
  have hn := h.hn
  have hkh := h.ok.h
  have hkt := h.ok.t
  have hkr := h.ok.r
  have hn1 := h.ok.n1
  have hn2 := h.ok.n2
  have lh := lk_bd h.b.hv f.head
  have hw : IntKind.u64.wrap (q.fr - lk s.vs f.head) = q.fr - lk s.vs f.head := by rw [w64_wrap]; unfold w64; have : q.fr - lk s.vs f.head ≥ 0 := by { have : qH s f = lk s.vs f.head := rfl; omega }; omega
  have hv : decide (q.fr < lk s.vs f.head) = false := decide_eq_false hc
  have hv2 : decide ((f.n : Int) ≤ q.fr - lk s.vs f.head) = false := decide_eq_false hd
  clear hc hd hfr
  go_enter Try.func58, Try.ntmps58
  go_wp2_with fail
  refine Mix.wp_region_mix (fun _ => True) (fun i => ([1, 0, 0, 0, 0, 0, 0, 0, 0, 0, 0, 0, 0, 0, 0, 0, 0, 0, 0, 2, 0, 0, 1, 0, 0, 2] : List Nat).getD i 0) [0, 1, 2, 3, 4, 5, 6, 7, 8, 9, 10, 11, 12, 13, 14, 15, 16, 17, 18, 19, 20, 21, 22, 23, 24, 25] (by kernel_rfl) (by kernel_rfl) ?_
  repeat (first | (refine Mix.mix_q (by simp only [List.getElem?_toArray, List.getElem?_cons_zero, List.getElem?_cons_succ]; exact rfl) rfl ?_; go_big_quiet_step (fail); refine wpQuiet_nil ?_) | (refine Mix.mix_p (by simp only [List.getElem?_toArray, List.getElem?_cons_zero, List.getElem?_cons_succ]; exact rfl) rfl rfl ?_; go_big_quiet_step (fail); refine wpQuiet_nil ?_))
  refine Mix.mix_e (by simp only [List.getElem?_toArray, List.getElem?_cons_zero, List.getElem?_cons_succ]; exact rfl) rfl fun W hW => ?_
  obtain ⟨n1, rfl⟩ := hW
  go_wp2_with fail
  refine (load_ok B p cb lv s q.t (f.head : Nat) _ (bank_drew h.b n1) ⟨ht.1, ht.2, by omega, by omega⟩ hlen hB).mono ?_
  rintro e w1 ⟨rfl, hs1⟩
  obtain ⟨lv', hb1, hc1, hf1, hfd, hqd⟩ := qafter h hq hs1
  clear a0 a1 a2 a3 a4 a5 a6 b0 b1 b2 b3 b4 fa4 fa5 fa6
  have a0 : w1.cell? ⟨g, 0, none⟩ = some (.pointer (some ⟨qb, 0, none⟩)) := hqd.cell 0
  have a1 : w1.cell? ⟨g, 1, none⟩ = some (.int .i64 q.t) := hqd.cell 1
  have a3 : w1.cell? ⟨g, 3, none⟩ = some (.int .u64 q.fr) := hqd.cell 3
  have a4 : w1.cell? ⟨g, 4, none⟩ = some (.int .u64 q.sn) := hqd.cell 4
  have a5 : w1.cell? ⟨g, 5, none⟩ = some (.int .u8 q.ph) := hqd.cell 5
  have a6 : w1.cell? ⟨g, 6, none⟩ = some (.int .i64 q.er) := hqd.cell 6
  have b1 : w1.cell? ⟨qb, 1, none⟩ = some (.int .i64 f.head) := hfd.cell 1
  have b2 : w1.cell? ⟨qb, 2, none⟩ = some (.int .i64 f.tail) := hfd.cell 2
  have b4 : w1.cell? ⟨qb, 4, none⟩ = some (.int .u64 f.n) := hfd.cell 4
  have fa4 := hqd.free 4
  have fa5 := hqd.free 5
  have fa6 := hqd.free 6
  have hne := hfd.ne hqd (by decide)
  have hne' := Ne.symm hne
  have Hb1 := hid hb1
  have Hc1 := hid hc1
  have Hf1 := hid hf1
  have Hfd := hid hfd
  have Hqd := hid hqd
  clear hs1 hb1 hc1 hf1 hfd hqd
  rw [Int.toNat_natCast]
  go_wp2_with fail
  repeat (first | (refine Mix.mix_q (by simp only [List.getElem?_toArray, List.getElem?_cons_zero, List.getElem?_cons_succ]; exact rfl) rfl ?_; go_big_quiet_step (fail); refine wpQuiet_nil ?_) | (refine Mix.mix_p (by simp only [List.getElem?_toArray, List.getElem?_cons_zero, List.getElem?_cons_succ]; exact rfl) rfl rfl ?_; go_big_quiet_step (fail); refine wpQuiet_nil ?_))
  refine Mix.mix_e (by simp only [List.getElem?_toArray, List.getElem?_cons_zero, List.getElem?_cons_succ]; exact rfl) rfl fun W2 hW2 => ?_
  obtain ⟨n2, rfl⟩ := hW2
  go_wp2_with fail
  intro n3
  go_wp2_with fail
  go_quiet (fail)
  go_wp2_with fail
  refine Mix.wp_region_mix (fun _ => True) (fun i => ([0, 0, 0, 0, 0, 0, 0, 0, 0, 0, 0, 0, 0, 0, 0, 0, 0, 0] : List Nat).getD i 0) [0, 1, 2, 3, 4, 5, 6, 7, 8, 9, 10, 11, 12, 13, 14, 15, 16, 17] (by kernel_rfl) (by kernel_rfl) ?_
  repeat (refine Mix.mix_q (by simp only [List.getElem?_toArray, List.getElem?_cons_zero, List.getElem?_cons_succ]; exact rfl) rfl ?_; go_big_quiet_step (fail); refine wpQuiet_nil ?_)
  intro n5
  go_wp2_with fail
  go_end0
  exact sres_close h Hb1.out Hc1.out Hf1.out Hfd.out Hqd.out rfl (((((Ch.refl (fun b => b = g) w1).drewN n2).set (fun _ => rfl) _).drewN (n3 + nq + n5)).set (fun _ => rfl) _) ((((Hqd.out.drewN n2).put 4 (.int .u64 (lk s.vs f.head))).drewN (n3 + nq + n5)).put 5 (.int .u8 6))
end
end Go.Proofs.Ytpkjjlahmjijnaa
