/- The queue: the steps of a pull. -/
import Derived.Test.YtpkjjlahmjijnaaQM
import Derived.Test.YtpkjjlahmjijnaaQPsteps
import Derived.Test.YtpkjjlahmjijnaaMapU8
namespace Go.Proofs.Ytpkjjlahmjijnaa
open Go.RowKit
set_option linter.unusedVariables false
set_option linter.unusedSimpArgs false
set_option linter.unusedSectionVars false

section
variable (B p cb qb g : Nat) (lv : Value) (s : BS) (f : Qd) (pu : Value) (q : Pl) (w : World) (h : QueueM B w p cb qb lv s f pu) (hq : Blk w g 109 (plCells qb q)) (ht : 0 ≤ q.t ∧ q.t < 16) (hlen : s.lg.length < 1000000) (hB : B ≤ w.heap.size)
include h hq ht hlen hB

set_option maxRecDepth 100000 in
set_option maxHeartbeats 1000000 in
theorem l_take_a (hat : 0 ≤ q.at' ∧ q.at' < 18446744073709551616) (hc : lk s.vs (f.ent q.at') = 0) : Calls Try.prog 61 #[.pointer (some ⟨g, 0, none⟩)] w (SRes B p cb qb g 109 lv f pu (s.load q.t (f.ent q.at' : Nat)) (plCells qb { q with got := 0, ph := 0, er := 17, fin := true }) w) := by
  have a0 : w.cell? ⟨g, 0, none⟩ = some (.pointer (some ⟨qb, 0, none⟩)) := hq.cell 0
  have a1 : w.cell? ⟨g, 1, none⟩ = some (.int .i64 q.t) := hq.cell 1
  have a2 : w.cell? ⟨g, 2, none⟩ = some (.int .u64 q.at') := hq.cell 2
  have a3 : w.cell? ⟨g, 3, none⟩ = some (.int .u64 q.got) := hq.cell 3
  have a4 : w.cell? ⟨g, 4, none⟩ = some (.int .u8 q.ph) := hq.cell 4
  have a5 : w.cell? ⟨g, 5, none⟩ = some (.int .i64 q.er) := hq.cell 5
  have a6 : w.cell? ⟨g, 6, none⟩ = some (.bool q.fin) := hq.cell 6
  have b0 : w.cell? ⟨qb, 0, none⟩ = some (.pointer (some ⟨p, 0, none⟩)) := h.fd.cell 0
  have b1 : w.cell? ⟨qb, 1, none⟩ = some (.int .i64 f.head) := h.fd.cell 1
  have b2 : w.cell? ⟨qb, 2, none⟩ = some (.int .i64 f.tail) := h.fd.cell 2
  have b3 : w.cell? ⟨qb, 3, none⟩ = some (.int .i64 f.ring) := h.fd.cell 3
  have b4 : w.cell? ⟨qb, 4, none⟩ = some (.int .u64 f.n) := h.fd.cell 4
  have fa3 := hq.free 3
  have fa4 := hq.free 4
  have fa5 := hq.free 5
  have fa6 := hq.free 6
  have hn := h.hn
  have hkh := h.ok.h
  have hkt := h.ok.t
  have hkr := h.ok.r
  have hn1 := h.ok.n1
  have hn2 := h.ok.n2
  have hel := ent_lt h.ok q.at'
  have Hat := hid hat
  have HC := hid hc
  clear hat hc
  go_enter Try.func61, Try.ntmps61
  go_wp2_with fail
  refine Mix.wp_region_mix (fun _ => True) (fun i => ([1, 0, 0, 0, 0, 0, 0, 0, 0, 0, 0, 0, 0, 0, 0, 0, 0, 0, 0, 0, 0, 2, 0, 0, 1, 0, 0, 2] : List Nat).getD i 0) [0, 1, 2, 3, 4, 5, 6, 7, 8, 9, 10, 11, 12, 13, 14, 15, 16, 17, 18, 19, 20, 21, 22, 23, 24, 25, 26, 27] (by kernel_rfl) (by kernel_rfl) ?_
  repeat (first | (refine Mix.mix_q (by simp only [List.getElem?_toArray, List.getElem?_cons_zero, List.getElem?_cons_succ]; exact rfl) rfl ?_; go_big_quiet_step ((go_at_call 56; exact qent_q B p cb qb lv s f pu q.at' w h Hat.out _)); refine wpQuiet_nil ?_) | (refine Mix.mix_p (by simp only [List.getElem?_toArray, List.getElem?_cons_zero, List.getElem?_cons_succ]; exact rfl) rfl rfl ?_; go_big_quiet_step (fail); refine wpQuiet_nil ?_))
  refine Mix.mix_e (by simp only [List.getElem?_toArray, List.getElem?_cons_zero, List.getElem?_cons_succ]; exact rfl) rfl fun W hW => ?_
  obtain ⟨n1, rfl⟩ := hW
  go_wp2_with fail
  refine (load_ok B p cb lv s q.t (f.ent q.at' : Nat) _ (bank_drew h.b n1) ⟨ht.1, ht.2, by omega, by omega⟩ hlen hB).mono ?_
  rintro e w1 ⟨rfl, hs1⟩
  obtain ⟨lv', hb1, hc1, hf1, hfd, hqd⟩ := qafter h hq hs1
  clear a0 a1 a2 a3 a4 a5 a6 b0 b1 b2 b3 b4 fa3 fa4 fa5 fa6
  have a0 : w1.cell? ⟨g, 0, none⟩ = some (.pointer (some ⟨qb, 0, none⟩)) := hqd.cell 0
  have a1 : w1.cell? ⟨g, 1, none⟩ = some (.int .i64 q.t) := hqd.cell 1
  have a3 : w1.cell? ⟨g, 3, none⟩ = some (.int .u64 q.got) := hqd.cell 3
  have a4 : w1.cell? ⟨g, 4, none⟩ = some (.int .u8 q.ph) := hqd.cell 4
  have a5 : w1.cell? ⟨g, 5, none⟩ = some (.int .i64 q.er) := hqd.cell 5
  have a6 : w1.cell? ⟨g, 6, none⟩ = some (.bool q.fin) := hqd.cell 6
  have b1 : w1.cell? ⟨qb, 1, none⟩ = some (.int .i64 f.head) := hfd.cell 1
  have b2 : w1.cell? ⟨qb, 2, none⟩ = some (.int .i64 f.tail) := hfd.cell 2
  have b4 : w1.cell? ⟨qb, 4, none⟩ = some (.int .u64 f.n) := hfd.cell 4
  have fa3 := hqd.free 3
  have fa4 := hqd.free 4
  have fa5 := hqd.free 5
  have fa6 := hqd.free 6
  have hne := hfd.ne hqd (by decide)
  have hne' := Ne.symm hne
  have Hb1 := hid hb1
  have Hc1 := hid hc1
  have Hf1 := hid hf1
  have Hfd := hid hfd
  have Hqd := hid hqd
  clear hs1 hb1 hc1 hf1 hfd hqd
  have hc := HC.out
  rw [Int.toNat_natCast, hc]
  clear hc
  go_wp2_with fail
  repeat (first | (refine Mix.mix_q (by simp only [List.getElem?_toArray, List.getElem?_cons_zero, List.getElem?_cons_succ]; exact rfl) rfl ?_; go_big_quiet_step (fail); refine wpQuiet_nil ?_) | (refine Mix.mix_p (by simp only [List.getElem?_toArray, List.getElem?_cons_zero, List.getElem?_cons_succ]; exact rfl) rfl rfl ?_; go_big_quiet_step (fail); refine wpQuiet_nil ?_))
  refine Mix.mix_e (by simp only [List.getElem?_toArray, List.getElem?_cons_zero, List.getElem?_cons_succ]; exact rfl) rfl fun W2 hW2 => ?_
  obtain ⟨n2, rfl⟩ := hW2
  go_wp2_with fail
  intro n3
  go_wp2_with fail
  go_end0
  have hbl := (((((((Hqd.out.drewN n2).put 3 (.int .u64 0)).drewN n3).put 4 (.int .u8 20)).put 4 (.int .u8 0)).put 5 (.int .i64 17)).put 6 (.bool true))
  have hch := ((((((((Ch.refl (fun b => b = g) w1).drewN n2).set (b := g) (o := 3) (fun _ => rfl) (.int .u64 0)).drewN n3).set (b := g) (o := 4) (fun _ => rfl) (.int .u8 20)).set (b := g) (o := 4) (fun _ => rfl) (.int .u8 0)).set (b := g) (o := 5) (fun _ => rfl) (.int .i64 17)).set (b := g) (o := 6) (fun _ => rfl) (.bool true))
  exact sres_close h Hb1.out Hc1.out Hf1.out Hfd.out Hqd.out rfl hch hbl

set_option maxRecDepth 100000 in
set_option maxHeartbeats 1000000 in
theorem l_take_b (hat : 0 ≤ q.at' ∧ q.at' < 18446744073709551616) (hc : lk s.vs (f.ent q.at') ≠ 0) : Calls Try.prog 61 #[.pointer (some ⟨g, 0, none⟩)] w (SRes B p cb qb g 109 lv f pu (s.load q.t (f.ent q.at' : Nat)) (plCells qb { q with got := lk s.vs (f.ent q.at'), ph := 20 }) w) := by
  have a0 : w.cell? ⟨g, 0, none⟩ = some (.pointer (some ⟨qb, 0, none⟩)) := hq.cell 0
  have a1 : w.cell? ⟨g, 1, none⟩ = some (.int .i64 q.t) := hq.cell 1
  have a2 : w.cell? ⟨g, 2, none⟩ = some (.int .u64 q.at') := hq.cell 2
  have a3 : w.cell? ⟨g, 3, none⟩ = some (.int .u64 q.got) := hq.cell 3
  have a4 : w.cell? ⟨g, 4, none⟩ = some (.int .u8 q.ph) := hq.cell 4
  have a5 : w.cell? ⟨g, 5, none⟩ = some (.int .i64 q.er) := hq.cell 5
  have a6 : w.cell? ⟨g, 6, none⟩ = some (.bool q.fin) := hq.cell 6
  have b0 : w.cell? ⟨qb, 0, none⟩ = some (.pointer (some ⟨p, 0, none⟩)) := h.fd.cell 0
  have b1 : w.cell? ⟨qb, 1, none⟩ = some (.int .i64 f.head) := h.fd.cell 1
  have b2 : w.cell? ⟨qb, 2, none⟩ = some (.int .i64 f.tail) := h.fd.cell 2
  have b3 : w.cell? ⟨qb, 3, none⟩ = some (.int .i64 f.ring) := h.fd.cell 3
  have b4 : w.cell? ⟨qb, 4, none⟩ = some (.int .u64 f.n) := h.fd.cell 4
  have fa3 := hq.free 3
  have fa4 := hq.free 4
  have fa5 := hq.free 5
  have fa6 := hq.free 6
  have hn := h.hn
  have hkh := h.ok.h
  have hkt := h.ok.t
  have hkr := h.ok.r
  have hn1 := h.ok.n1
  have hn2 := h.ok.n2
  have hel := ent_lt h.ok q.at'
  have Hat := hid hat
  have HC := hid hc
  clear hat hc
  go_enter Try.func61, Try.ntmps61
  go_wp2_with fail
  refine Mix.wp_region_mix (fun _ => True) (fun i => ([1, 0, 0, 0, 0, 0, 0, 0, 0, 0, 0, 0, 0, 0, 0, 0, 0, 0, 0, 0, 0, 2, 0, 0, 1, 0, 0, 2] : List Nat).getD i 0) [0, 1, 2, 3, 4, 5, 6, 7, 8, 9, 10, 11, 12, 13, 14, 15, 16, 17, 18, 19, 20, 21, 22, 23, 24, 25, 26, 27] (by kernel_rfl) (by kernel_rfl) ?_
  repeat (first | (refine Mix.mix_q (by simp only [List.getElem?_toArray, List.getElem?_cons_zero, List.getElem?_cons_succ]; exact rfl) rfl ?_; go_big_quiet_step ((go_at_call 56; exact qent_q B p cb qb lv s f pu q.at' w h Hat.out _)); refine wpQuiet_nil ?_) | (refine Mix.mix_p (by simp only [List.getElem?_toArray, List.getElem?_cons_zero, List.getElem?_cons_succ]; exact rfl) rfl rfl ?_; go_big_quiet_step (fail); refine wpQuiet_nil ?_))
  refine Mix.mix_e (by simp only [List.getElem?_toArray, List.getElem?_cons_zero, List.getElem?_cons_succ]; exact rfl) rfl fun W hW => ?_
  obtain ⟨n1, rfl⟩ := hW
  go_wp2_with fail
  refine (load_ok B p cb lv s q.t (f.ent q.at' : Nat) _ (bank_drew h.b n1) ⟨ht.1, ht.2, by omega, by omega⟩ hlen hB).mono ?_
  rintro e w1 ⟨rfl, hs1⟩
  obtain ⟨lv', hb1, hc1, hf1, hfd, hqd⟩ := qafter h hq hs1
  clear a0 a1 a2 a3 a4 a5 a6 b0 b1 b2 b3 b4 fa3 fa4 fa5 fa6
  have a0 : w1.cell? ⟨g, 0, none⟩ = some (.pointer (some ⟨qb, 0, none⟩)) := hqd.cell 0
  have a1 : w1.cell? ⟨g, 1, none⟩ = some (.int .i64 q.t) := hqd.cell 1
  have a3 : w1.cell? ⟨g, 3, none⟩ = some (.int .u64 q.got) := hqd.cell 3
  have a4 : w1.cell? ⟨g, 4, none⟩ = some (.int .u8 q.ph) := hqd.cell 4
  have a5 : w1.cell? ⟨g, 5, none⟩ = some (.int .i64 q.er) := hqd.cell 5
  have a6 : w1.cell? ⟨g, 6, none⟩ = some (.bool q.fin) := hqd.cell 6
  have b1 : w1.cell? ⟨qb, 1, none⟩ = some (.int .i64 f.head) := hfd.cell 1
  have b2 : w1.cell? ⟨qb, 2, none⟩ = some (.int .i64 f.tail) := hfd.cell 2
  have b4 : w1.cell? ⟨qb, 4, none⟩ = some (.int .u64 f.n) := hfd.cell 4
  have fa3 := hqd.free 3
  have fa4 := hqd.free 4
  have fa5 := hqd.free 5
  have fa6 := hqd.free 6
  have hne := hfd.ne hqd (by decide)
  have hne' := Ne.symm hne
  have Hb1 := hid hb1
  have Hc1 := hid hc1
  have Hf1 := hid hf1
  have Hfd := hid hfd
  have Hqd := hid hqd
  clear hs1 hb1 hc1 hf1 hfd hqd
  have hc := HC.out
  rw [Int.toNat_natCast]
  have hv : (lk s.vs (f.ent q.at') == 0) = false := by rw [beq_eq_false_iff_ne]; exact hc
  clear hc
  go_wp2_with fail
  repeat (first | (refine Mix.mix_q (by simp only [List.getElem?_toArray, List.getElem?_cons_zero, List.getElem?_cons_succ]; exact rfl) rfl ?_; go_big_quiet_step (fail); refine wpQuiet_nil ?_) | (refine Mix.mix_p (by simp only [List.getElem?_toArray, List.getElem?_cons_zero, List.getElem?_cons_succ]; exact rfl) rfl rfl ?_; go_big_quiet_step (fail); refine wpQuiet_nil ?_))
  refine Mix.mix_e (by simp only [List.getElem?_toArray, List.getElem?_cons_zero, List.getElem?_cons_succ]; exact rfl) rfl fun W2 hW2 => ?_
  obtain ⟨n2, rfl⟩ := hW2
  go_wp2_with fail
  intro n3
  go_wp2_with fail
  go_end0
  exact sres_close h Hb1.out Hc1.out Hf1.out Hfd.out Hqd.out rfl (((((Ch.refl (fun b => b = g) w1).drewN n2).set (fun _ => rfl) _).drewN n3).set (fun _ => rfl) _) ((((Hqd.out.drewN n2).put 3 (.int .u64 (lk s.vs (f.ent q.at')))).drewN n3).put 4 (.int .u8 20))

set_option maxRecDepth 100000 in
set_option maxHeartbeats 1000000 in
theorem l_clear (hat : 0 ≤ q.at' ∧ q.at' < 18446744073709551616) : Calls Try.prog 62 #[.pointer (some ⟨g, 0, none⟩)] w (SRes B p cb qb g 109 lv f pu (s.store q.t (f.ent q.at' : Nat) 0) (plCells qb { q with ph := 21 }) w) := by
  have a0 : w.cell? ⟨g, 0, none⟩ = some (.pointer (some ⟨qb, 0, none⟩)) := hq.cell 0
  have a1 : w.cell? ⟨g, 1, none⟩ = some (.int .i64 q.t) := hq.cell 1
  have a2 : w.cell? ⟨g, 2, none⟩ = some (.int .u64 q.at') := hq.cell 2
  have a3 : w.cell? ⟨g, 3, none⟩ = some (.int .u64 q.got) := hq.cell 3
  have a4 : w.cell? ⟨g, 4, none⟩ = some (.int .u8 q.ph) := hq.cell 4
  have a5 : w.cell? ⟨g, 5, none⟩ = some (.int .i64 q.er) := hq.cell 5
  have a6 : w.cell? ⟨g, 6, none⟩ = some (.bool q.fin) := hq.cell 6
  have b0 : w.cell? ⟨qb, 0, none⟩ = some (.pointer (some ⟨p, 0, none⟩)) := h.fd.cell 0
  have b1 : w.cell? ⟨qb, 1, none⟩ = some (.int .i64 f.head) := h.fd.cell 1
  have b2 : w.cell? ⟨qb, 2, none⟩ = some (.int .i64 f.tail) := h.fd.cell 2
  have b3 : w.cell? ⟨qb, 3, none⟩ = some (.int .i64 f.ring) := h.fd.cell 3
  have b4 : w.cell? ⟨qb, 4, none⟩ = some (.int .u64 f.n) := h.fd.cell 4
  have fa4 := hq.free 4
  have hn := h.hn
  have hkh := h.ok.h
  have hkt := h.ok.t
  have hkr := h.ok.r
  have hn1 := h.ok.n1
  have hn2 := h.ok.n2
  have hel := ent_lt h.ok q.at'
  have Hat := hid hat
  clear hat
  go_enter Try.func62, Try.ntmps62
  go_wp2_with fail
  refine Mix.wp_region_mix (fun _ => True) (fun i => ([0, 0, 0, 0, 0, 0, 0, 0, 0, 0, 0, 0, 0, 0, 0, 0, 0, 0, 0, 0, 2] : List Nat).getD i 0) [0, 1, 2, 3, 4, 5, 6, 7, 8, 9, 10, 11, 12, 13, 14, 15, 16, 17, 18, 19, 20] (by kernel_rfl) (by kernel_rfl) ?_
  repeat (first | (refine Mix.mix_q (by simp only [List.getElem?_toArray, List.getElem?_cons_zero, List.getElem?_cons_succ]; exact rfl) rfl ?_; go_big_quiet_step ((go_at_call 56; exact qent_q B p cb qb lv s f pu q.at' w h Hat.out _)); refine wpQuiet_nil ?_) | (refine Mix.mix_p (by simp only [List.getElem?_toArray, List.getElem?_cons_zero, List.getElem?_cons_succ]; exact rfl) rfl rfl ?_; go_big_quiet_step (fail); refine wpQuiet_nil ?_))
  refine Mix.mix_e (by simp only [List.getElem?_toArray, List.getElem?_cons_zero, List.getElem?_cons_succ]; exact rfl) rfl fun W hW => ?_
  obtain ⟨n1, rfl⟩ := hW
  go_wp2_with fail
  refine (store_ok B p cb lv s q.t (f.ent q.at' : Nat) 0 _ (bank_drew h.b n1) ⟨ht.1, ht.2, by omega, by omega⟩ hlen hB ⟨by decide, by decide⟩).mono ?_
  rintro e w1 ⟨rfl, hs1⟩
  obtain ⟨lv', hb1, hc1, hf1, hfd, hqd⟩ := qafter h hq hs1
  clear a0 a1 a2 a3 a4 a5 a6 b0 b1 b2 b3 b4 fa4
  have a0 : w1.cell? ⟨g, 0, none⟩ = some (.pointer (some ⟨qb, 0, none⟩)) := hqd.cell 0
  have a4 : w1.cell? ⟨g, 4, none⟩ = some (.int .u8 q.ph) := hqd.cell 4
  have b1 : w1.cell? ⟨qb, 1, none⟩ = some (.int .i64 f.head) := hfd.cell 1
  have b2 : w1.cell? ⟨qb, 2, none⟩ = some (.int .i64 f.tail) := hfd.cell 2
  have b4 : w1.cell? ⟨qb, 4, none⟩ = some (.int .u64 f.n) := hfd.cell 4
  have fa4 := hqd.free 4
  have hne := hfd.ne hqd (by decide)
  have hne' := Ne.symm hne
  have Hb1 := hid hb1
  have Hc1 := hid hc1
  have Hf1 := hid hf1
  have Hfd := hid hfd
  have Hqd := hid hqd
  clear hs1 hb1 hc1 hf1 hfd hqd
  go_wp2_with fail
  repeat (first | (refine Mix.mix_q (by simp only [List.getElem?_toArray, List.getElem?_cons_zero, List.getElem?_cons_succ]; exact rfl) rfl ?_; go_big_quiet_step (fail); refine wpQuiet_nil ?_) | (refine Mix.mix_p (by simp only [List.getElem?_toArray, List.getElem?_cons_zero, List.getElem?_cons_succ]; exact rfl) rfl rfl ?_; go_big_quiet_step (fail); refine wpQuiet_nil ?_))
  intro n2
  go_wp2_with fail
  go_end0
  exact sres_close h Hb1.out Hc1.out Hf1.out Hfd.out Hqd.out (List.length_set ..) (((Ch.refl (fun b => b = g) w1).drewN n2).set (fun _ => rfl) _) ((Hqd.out.drewN n2).put 4 (.int .u8 21))

set_option maxRecDepth 100000 in
set_option maxHeartbeats 1000000 in
theorem l_adv : Calls Try.prog 63 #[.pointer (some ⟨g, 0, none⟩)] w (SRes B p cb qb g 109 lv f pu (s.store q.t f.head (w64 (q.at' + 1))) (plCells qb { q with ph := 0, fin := true }) w) := by
  have a0 : w.cell? ⟨g, 0, none⟩ = some (.pointer (some ⟨qb, 0, none⟩)) := hq.cell 0
  have a1 : w.cell? ⟨g, 1, none⟩ = some (.int .i64 q.t) := hq.cell 1
  have a2 : w.cell? ⟨g, 2, none⟩ = some (.int .u64 q.at') := hq.cell 2
  have a3 : w.cell? ⟨g, 3, none⟩ = some (.int .u64 q.got) := hq.cell 3
  have a4 : w.cell? ⟨g, 4, none⟩ = some (.int .u8 q.ph) := hq.cell 4
  have a5 : w.cell? ⟨g, 5, none⟩ = some (.int .i64 q.er) := hq.cell 5
  have a6 : w.cell? ⟨g, 6, none⟩ = some (.bool q.fin) := hq.cell 6
  have b0 : w.cell? ⟨qb, 0, none⟩ = some (.pointer (some ⟨p, 0, none⟩)) := h.fd.cell 0
  have b1 : w.cell? ⟨qb, 1, none⟩ = some (.int .i64 f.head) := h.fd.cell 1
  have b2 : w.cell? ⟨qb, 2, none⟩ = some (.int .i64 f.tail) := h.fd.cell 2
  have b3 : w.cell? ⟨qb, 3, none⟩ = some (.int .i64 f.ring) := h.fd.cell 3
  have b4 : w.cell? ⟨qb, 4, none⟩ = some (.int .u64 f.n) := h.fd.cell 4
  have fa4 := hq.free 4
  have fa6 := hq.free 6
  have hn := h.hn
  have hkh := h.ok.h
  have hkt := h.ok.t
  have hkr := h.ok.r
  have hn1 := h.ok.n1
  have hn2 := h.ok.n2
  have hw0 : IntKind.u64.wrap (q.at' + 1) = w64 (q.at' + 1) := w64_wrap _
  have hbd0 := w64_bd (q.at' + 1)
  obtain ⟨t1, ht1⟩ : ∃ t1, t1 = w64 (q.at' + 1) := ⟨_, rfl⟩
  rw [← ht1] at hw0 hbd0 ⊢
  have Hbd := hid hbd0
  clear ht1 hbd0
  go_enter Try.func63, Try.ntmps63
  go_wp2_with fail
  refine Mix.wp_region_mix (fun _ => True) (fun i => ([0, 0, 0, 0, 0, 0, 0, 0, 0, 0, 0, 0, 0, 0, 0, 0, 0, 0, 0, 0, 0, 0, 0, 2] : List Nat).getD i 0) [0, 1, 2, 3, 4, 5, 6, 7, 8, 9, 10, 11, 12, 13, 14, 15, 16, 17, 18, 19, 20, 21, 22, 23] (by kernel_rfl) (by kernel_rfl) ?_
  repeat (first | (refine Mix.mix_q (by simp only [List.getElem?_toArray, List.getElem?_cons_zero, List.getElem?_cons_succ]; exact rfl) rfl ?_; go_big_quiet_step (fail); refine wpQuiet_nil ?_) | (refine Mix.mix_p (by simp only [List.getElem?_toArray, List.getElem?_cons_zero, List.getElem?_cons_succ]; exact rfl) rfl rfl ?_; go_big_quiet_step (fail); refine wpQuiet_nil ?_))
  refine Mix.mix_e (by simp only [List.getElem?_toArray, List.getElem?_cons_zero, List.getElem?_cons_succ]; exact rfl) rfl fun W hW => ?_
  obtain ⟨n1, rfl⟩ := hW
  go_wp2_with fail
  refine (store_ok B p cb lv s q.t (f.head : Nat) t1 _ (bank_drew h.b n1) ⟨ht.1, ht.2, by omega, by omega⟩ hlen hB Hbd.out).mono ?_
  rintro e w1 ⟨rfl, hs1⟩
  obtain ⟨lv', hb1, hc1, hf1, hfd, hqd⟩ := qafter h hq hs1
  clear a0 a1 a2 a3 a4 a5 a6 b0 b1 b2 b3 b4 fa4 fa6
  have a0 : w1.cell? ⟨g, 0, none⟩ = some (.pointer (some ⟨qb, 0, none⟩)) := hqd.cell 0
  have a4 : w1.cell? ⟨g, 4, none⟩ = some (.int .u8 q.ph) := hqd.cell 4
  have a6 : w1.cell? ⟨g, 6, none⟩ = some (.bool q.fin) := hqd.cell 6
  have b1 : w1.cell? ⟨qb, 1, none⟩ = some (.int .i64 f.head) := hfd.cell 1
  have b2 : w1.cell? ⟨qb, 2, none⟩ = some (.int .i64 f.tail) := hfd.cell 2
  have b4 : w1.cell? ⟨qb, 4, none⟩ = some (.int .u64 f.n) := hfd.cell 4
  have fa4 := hqd.free 4
  have fa6 := hqd.free 6
  have hne := hfd.ne hqd (by decide)
  have hne' := Ne.symm hne
  have Hb1 := hid hb1
  have Hc1 := hid hc1
  have Hf1 := hid hf1
  have Hfd := hid hfd
  have Hqd := hid hqd
  clear hs1 hb1 hc1 hf1 hfd hqd
  go_wp2_with fail
  repeat (first | (refine Mix.mix_q (by simp only [List.getElem?_toArray, List.getElem?_cons_zero, List.getElem?_cons_succ]; exact rfl) rfl ?_; go_big_quiet_step (fail); refine wpQuiet_nil ?_) | (refine Mix.mix_p (by simp only [List.getElem?_toArray, List.getElem?_cons_zero, List.getElem?_cons_succ]; exact rfl) rfl rfl ?_; go_big_quiet_step (fail); refine wpQuiet_nil ?_))
  intro n2
  go_wp2_with fail
  go_end0
  exact sres_close h Hb1.out Hc1.out Hf1.out Hfd.out Hqd.out (List.length_set ..) ((((Ch.refl (fun b => b = g) w1).drewN n2).set (fun _ => rfl) _).set (fun _ => rfl) _) (((Hqd.out.drewN n2).put 4 (.int .u8 0)).put 6 (.bool true))
end

/-- What Pull.Step leaves. -/
def LRes (B p cb qb g : Nat) (lv : Value) (f : Qd) (pu : Value) (q : Pl) (o : BS × Pl) (w : World) (e : Ending) (w' : World) : Prop :=
  e = .returned (.tuple #[.int .u8 q.ph, .bool (o.2.ph == 0)]) ∧ ∃ lv', QueueM B w' p cb qb lv' o.1 f pu ∧ Blk w' g 109 (plCells qb o.2) ∧ Ch (fun b => FP p cb lv b ∨ b = g) w w' ∧ Fresh w lv lv'
section
variable (B p cb qb g : Nat) (lv : Value) (s : BS) (f : Qd) (pu : Value) (q : Pl) (w : World) (h : QueueM B w p cb qb lv s f pu) (hq : Blk w g 109 (plCells qb q)) (ht : 0 ≤ q.t ∧ q.t < 16) (hlen : s.lg.length < 1000000) (hB : B ≤ w.heap.size)
include h hq ht hlen hB

set_option maxRecDepth 100000 in
set_option maxHeartbeats 1000000 in
theorem lstep19a (hph : q.ph = 19) (HAT : Hid (0 ≤ q.at' ∧ q.at' < 18446744073709551616)) (hc : lk s.vs (f.ent q.at') = 0) : Calls Try.prog 30 #[.pointer (some ⟨g, 0, none⟩)] w (LRes B p cb qb g lv f pu q (plstep s f q) w) := by
  have hmm := @run_makeMap Try.prog
  have hfn : ∀ W : World, (binOp .neq 110 (.func (.func 61) #[] #[]) .nilFunc).run Try.prog W = .ok (.bool true) W := fun W => by kernel_rfl
  have HE := hid (plstep19a (s := s) (f := f) hph hc)
  have HPH := hid hph
  have HC := hid hc
  clear hc
  go_enter Try.func30, Try.ntmps30
  go_wp2_with (first | (refine wpList_insert_u8 rfl _ _ _ 111 rfl _ _ Try.underlying111 Try.underlying5 w.heap.size [] (MapAt.new w) 19 (.func (.func 61) #[] #[]) rfl rfl rfl rfl ?_; intro w1 m1 c1) | (refine wpList_insert_u8 rfl _ _ _ 111 rfl _ _ Try.underlying111 Try.underlying5 w.heap.size [(19, .func (.func 61) #[] #[])] m1 20 (.func (.func 62) #[] #[]) rfl rfl rfl rfl ?_; intro w2 m2 c2) | (refine wpList_insert_u8 rfl _ _ _ 111 rfl _ _ Try.underlying111 Try.underlying5 w.heap.size [(19, .func (.func 61) #[] #[]), (20, .func (.func 62) #[] #[])] m2 21 (.func (.func 63) #[] #[]) rfl rfl rfl rfl ?_; intro w3 m3 c3; have cW : Ch (fun _ => False) w w3 := (((((Ch.refl (fun _ => False) w).alloc (.map #[] 0)).trans c1 (fun j hj e => by subst e; omega)).trans c2 (fun j hj e => by subst e; omega)).trans c3 (fun j hj e => by subst e; omega)); have hqW := cW.blk hq id; have hW := h.keep cW; have hBW : B ≤ w3.heap.size := Nat.le_trans hB cW.size; have a4 : w3.cell? ⟨g, 4, none⟩ = some (.int .u8 19) := (hqW.cell 4).trans (by show some (Value.int .u8 q.ph) = _; rw [hph]); have HCW := hid cW; have HQW := hid hqW; have HW := hid hW; have HM := hid m3; clear cW hqW hW c1 m1 c2 m2 c3 m3) | (refine wpList_lookup_u8 rfl _ _ 111 rfl _ _ Try.underlying111 Try.underlying5 w.heap.size [(19, .func (.func 61) #[] #[]), (20, .func (.func 62) #[] #[]), (21, .func (.func 63) #[] #[])] HM.out 19 .nilFunc (Try.zeroValue110 _) rfl rfl (.func (.func 61) #[] #[]) rfl ?_) | fail)
  refine (l_take_a B p cb qb g lv s f pu q w3 HW.out HQW.out ht hlen hBW HAT.out HC.out).mono ?_
  rintro e w5 ⟨rfl, lv', hQ5, hq5, hc5, hf5⟩
  have x4 : w5.cell? ⟨g, 4, none⟩ = some (.int .u8 0) := hq5.cell 4
  have HQ5 := hid hQ5
  have Hq5 := hid hq5
  have Hc5 := hid hc5
  have Hf5 := hid hf5
  clear hQ5 hq5 hc5 hf5 HM
  go_wp2_with fail
  go_quiet (fail)
  go_wp2_with fail
  go_ret2
  rw [HE.out]
  exact ⟨by rw [HPH.out]; rfl, lv', HQ5.out.drewN nq, Hq5.out.drewN nq, ((HCW.out.mono fun _ _ h => h.elim).trans Hc5.out (fun _ _ h => h)).drewN nq, Hf5.out.imp id fun h b hb => Nat.le_trans HCW.out.size (h b hb)⟩

set_option maxRecDepth 100000 in
set_option maxHeartbeats 1000000 in
theorem lstep19b (hph : q.ph = 19) (HAT : Hid (0 ≤ q.at' ∧ q.at' < 18446744073709551616)) (hc : lk s.vs (f.ent q.at') ≠ 0) : Calls Try.prog 30 #[.pointer (some ⟨g, 0, none⟩)] w (LRes B p cb qb g lv f pu q (plstep s f q) w) := by
  have hmm := @run_makeMap Try.prog
  have hfn : ∀ W : World, (binOp .neq 110 (.func (.func 61) #[] #[]) .nilFunc).run Try.prog W = .ok (.bool true) W := fun W => by kernel_rfl
  have HE := hid (plstep19b (s := s) (f := f) hph hc)
  have HPH := hid hph
  have HC := hid hc
  clear hc
  go_enter Try.func30, Try.ntmps30
  go_wp2_with (first | (refine wpList_insert_u8 rfl _ _ _ 111 rfl _ _ Try.underlying111 Try.underlying5 w.heap.size [] (MapAt.new w) 19 (.func (.func 61) #[] #[]) rfl rfl rfl rfl ?_; intro w1 m1 c1) | (refine wpList_insert_u8 rfl _ _ _ 111 rfl _ _ Try.underlying111 Try.underlying5 w.heap.size [(19, .func (.func 61) #[] #[])] m1 20 (.func (.func 62) #[] #[]) rfl rfl rfl rfl ?_; intro w2 m2 c2) | (refine wpList_insert_u8 rfl _ _ _ 111 rfl _ _ Try.underlying111 Try.underlying5 w.heap.size [(19, .func (.func 61) #[] #[]), (20, .func (.func 62) #[] #[])] m2 21 (.func (.func 63) #[] #[]) rfl rfl rfl rfl ?_; intro w3 m3 c3; have cW : Ch (fun _ => False) w w3 := (((((Ch.refl (fun _ => False) w).alloc (.map #[] 0)).trans c1 (fun j hj e => by subst e; omega)).trans c2 (fun j hj e => by subst e; omega)).trans c3 (fun j hj e => by subst e; omega)); have hqW := cW.blk hq id; have hW := h.keep cW; have hBW : B ≤ w3.heap.size := Nat.le_trans hB cW.size; have a4 : w3.cell? ⟨g, 4, none⟩ = some (.int .u8 19) := (hqW.cell 4).trans (by show some (Value.int .u8 q.ph) = _; rw [hph]); have HCW := hid cW; have HQW := hid hqW; have HW := hid hW; have HM := hid m3; clear cW hqW hW c1 m1 c2 m2 c3 m3) | (refine wpList_lookup_u8 rfl _ _ 111 rfl _ _ Try.underlying111 Try.underlying5 w.heap.size [(19, .func (.func 61) #[] #[]), (20, .func (.func 62) #[] #[]), (21, .func (.func 63) #[] #[])] HM.out 19 .nilFunc (Try.zeroValue110 _) rfl rfl (.func (.func 61) #[] #[]) rfl ?_) | fail)
  refine (l_take_b B p cb qb g lv s f pu q w3 HW.out HQW.out ht hlen hBW HAT.out HC.out).mono ?_
  rintro e w5 ⟨rfl, lv', hQ5, hq5, hc5, hf5⟩
  have x4 : w5.cell? ⟨g, 4, none⟩ = some (.int .u8 20) := hq5.cell 4
  have HQ5 := hid hQ5
  have Hq5 := hid hq5
  have Hc5 := hid hc5
  have Hf5 := hid hf5
  clear hQ5 hq5 hc5 hf5 HM
  go_wp2_with fail
  go_quiet (fail)
  go_wp2_with fail
  go_ret2
  rw [HE.out]
  exact ⟨by rw [HPH.out]; rfl, lv', HQ5.out.drewN nq, Hq5.out.drewN nq, ((HCW.out.mono fun _ _ h => h.elim).trans Hc5.out (fun _ _ h => h)).drewN nq, Hf5.out.imp id fun h b hb => Nat.le_trans HCW.out.size (h b hb)⟩

set_option maxRecDepth 100000 in
set_option maxHeartbeats 1000000 in
theorem lstep20 (hph : q.ph = 20) (HAT : Hid (0 ≤ q.at' ∧ q.at' < 18446744073709551616)) : Calls Try.prog 30 #[.pointer (some ⟨g, 0, none⟩)] w (LRes B p cb qb g lv f pu q (plstep s f q) w) := by
  have hmm := @run_makeMap Try.prog
  have hfn : ∀ W : World, (binOp .neq 110 (.func (.func 62) #[] #[]) .nilFunc).run Try.prog W = .ok (.bool true) W := fun W => by kernel_rfl
  have HE := hid (plstep20 (s := s) (f := f) hph)
  have HPH := hid hph
  go_enter Try.func30, Try.ntmps30
  go_wp2_with (first | (refine wpList_insert_u8 rfl _ _ _ 111 rfl _ _ Try.underlying111 Try.underlying5 w.heap.size [] (MapAt.new w) 19 (.func (.func 61) #[] #[]) rfl rfl rfl rfl ?_; intro w1 m1 c1) | (refine wpList_insert_u8 rfl _ _ _ 111 rfl _ _ Try.underlying111 Try.underlying5 w.heap.size [(19, .func (.func 61) #[] #[])] m1 20 (.func (.func 62) #[] #[]) rfl rfl rfl rfl ?_; intro w2 m2 c2) | (refine wpList_insert_u8 rfl _ _ _ 111 rfl _ _ Try.underlying111 Try.underlying5 w.heap.size [(19, .func (.func 61) #[] #[]), (20, .func (.func 62) #[] #[])] m2 21 (.func (.func 63) #[] #[]) rfl rfl rfl rfl ?_; intro w3 m3 c3; have cW : Ch (fun _ => False) w w3 := (((((Ch.refl (fun _ => False) w).alloc (.map #[] 0)).trans c1 (fun j hj e => by subst e; omega)).trans c2 (fun j hj e => by subst e; omega)).trans c3 (fun j hj e => by subst e; omega)); have hqW := cW.blk hq id; have hW := h.keep cW; have hBW : B ≤ w3.heap.size := Nat.le_trans hB cW.size; have a4 : w3.cell? ⟨g, 4, none⟩ = some (.int .u8 20) := (hqW.cell 4).trans (by show some (Value.int .u8 q.ph) = _; rw [hph]); have HCW := hid cW; have HQW := hid hqW; have HW := hid hW; have HM := hid m3; clear cW hqW hW c1 m1 c2 m2 c3 m3) | (refine wpList_lookup_u8 rfl _ _ 111 rfl _ _ Try.underlying111 Try.underlying5 w.heap.size [(19, .func (.func 61) #[] #[]), (20, .func (.func 62) #[] #[]), (21, .func (.func 63) #[] #[])] HM.out 20 .nilFunc (Try.zeroValue110 _) rfl rfl (.func (.func 62) #[] #[]) rfl ?_) | fail)
  refine (l_clear B p cb qb g lv s f pu q w3 HW.out HQW.out ht hlen hBW HAT.out).mono ?_
  rintro e w5 ⟨rfl, lv', hQ5, hq5, hc5, hf5⟩
  have x4 : w5.cell? ⟨g, 4, none⟩ = some (.int .u8 21) := hq5.cell 4
  have HQ5 := hid hQ5
  have Hq5 := hid hq5
  have Hc5 := hid hc5
  have Hf5 := hid hf5
  clear hQ5 hq5 hc5 hf5 HM
  go_wp2_with fail
  go_quiet (fail)
  go_wp2_with fail
  go_ret2
  rw [HE.out]
  exact ⟨by rw [HPH.out]; rfl, lv', HQ5.out.drewN nq, Hq5.out.drewN nq, ((HCW.out.mono fun _ _ h => h.elim).trans Hc5.out (fun _ _ h => h)).drewN nq, Hf5.out.imp id fun h b hb => Nat.le_trans HCW.out.size (h b hb)⟩

set_option maxRecDepth 100000 in
set_option maxHeartbeats 1000000 in
theorem lstep21 (hph : q.ph = 21) : Calls Try.prog 30 #[.pointer (some ⟨g, 0, none⟩)] w (LRes B p cb qb g lv f pu q (plstep s f q) w) := by
  have hmm := @run_makeMap Try.prog
  have hfn : ∀ W : World, (binOp .neq 110 (.func (.func 63) #[] #[]) .nilFunc).run Try.prog W = .ok (.bool true) W := fun W => by kernel_rfl
  have HE := hid (plstep21 (s := s) (f := f) hph)
  have HPH := hid hph
  go_enter Try.func30, Try.ntmps30
  go_wp2_with (first | (refine wpList_insert_u8 rfl _ _ _ 111 rfl _ _ Try.underlying111 Try.underlying5 w.heap.size [] (MapAt.new w) 19 (.func (.func 61) #[] #[]) rfl rfl rfl rfl ?_; intro w1 m1 c1) | (refine wpList_insert_u8 rfl _ _ _ 111 rfl _ _ Try.underlying111 Try.underlying5 w.heap.size [(19, .func (.func 61) #[] #[])] m1 20 (.func (.func 62) #[] #[]) rfl rfl rfl rfl ?_; intro w2 m2 c2) | (refine wpList_insert_u8 rfl _ _ _ 111 rfl _ _ Try.underlying111 Try.underlying5 w.heap.size [(19, .func (.func 61) #[] #[]), (20, .func (.func 62) #[] #[])] m2 21 (.func (.func 63) #[] #[]) rfl rfl rfl rfl ?_; intro w3 m3 c3; have cW : Ch (fun _ => False) w w3 := (((((Ch.refl (fun _ => False) w).alloc (.map #[] 0)).trans c1 (fun j hj e => by subst e; omega)).trans c2 (fun j hj e => by subst e; omega)).trans c3 (fun j hj e => by subst e; omega)); have hqW := cW.blk hq id; have hW := h.keep cW; have hBW : B ≤ w3.heap.size := Nat.le_trans hB cW.size; have a4 : w3.cell? ⟨g, 4, none⟩ = some (.int .u8 21) := (hqW.cell 4).trans (by show some (Value.int .u8 q.ph) = _; rw [hph]); have HCW := hid cW; have HQW := hid hqW; have HW := hid hW; have HM := hid m3; clear cW hqW hW c1 m1 c2 m2 c3 m3) | (refine wpList_lookup_u8 rfl _ _ 111 rfl _ _ Try.underlying111 Try.underlying5 w.heap.size [(19, .func (.func 61) #[] #[]), (20, .func (.func 62) #[] #[]), (21, .func (.func 63) #[] #[])] HM.out 21 .nilFunc (Try.zeroValue110 _) rfl rfl (.func (.func 63) #[] #[]) rfl ?_) | fail)
  refine (l_adv B p cb qb g lv s f pu q w3 HW.out HQW.out ht hlen hBW).mono ?_
  rintro e w5 ⟨rfl, lv', hQ5, hq5, hc5, hf5⟩
  have x4 : w5.cell? ⟨g, 4, none⟩ = some (.int .u8 0) := hq5.cell 4
  have HQ5 := hid hQ5
  have Hq5 := hid hq5
  have Hc5 := hid hc5
  have Hf5 := hid hf5
  clear hQ5 hq5 hc5 hf5 HM
  go_wp2_with fail
  go_quiet (fail)
  go_wp2_with fail
  go_ret2
  rw [HE.out]
  exact ⟨by rw [HPH.out]; rfl, lv', HQ5.out.drewN nq, Hq5.out.drewN nq, ((HCW.out.mono fun _ _ h => h.elim).trans Hc5.out (fun _ _ h => h)).drewN nq, Hf5.out.imp id fun h b hb => Nat.le_trans HCW.out.size (h b hb)⟩

set_option maxRecDepth 100000 in
set_option maxHeartbeats 1000000 in
theorem lstep0 (hph : q.ph = 0) : Calls Try.prog 30 #[.pointer (some ⟨g, 0, none⟩)] w (LRes B p cb qb g lv f pu q (s, q) w) := by
  have hmm := @run_makeMap Try.prog
  have hfn : ∀ W : World, (binOp .neq 110 .nilFunc .nilFunc).run Try.prog W = .ok (.bool false) W := fun W => by kernel_rfl
  have HPH := hid hph
  go_enter Try.func30, Try.ntmps30
  go_wp2_with (first | (refine wpList_insert_u8 rfl _ _ _ 111 rfl _ _ Try.underlying111 Try.underlying5 w.heap.size [] (MapAt.new w) 19 (.func (.func 61) #[] #[]) rfl rfl rfl rfl ?_; intro w1 m1 c1) | (refine wpList_insert_u8 rfl _ _ _ 111 rfl _ _ Try.underlying111 Try.underlying5 w.heap.size [(19, .func (.func 61) #[] #[])] m1 20 (.func (.func 62) #[] #[]) rfl rfl rfl rfl ?_; intro w2 m2 c2) | (refine wpList_insert_u8 rfl _ _ _ 111 rfl _ _ Try.underlying111 Try.underlying5 w.heap.size [(19, .func (.func 61) #[] #[]), (20, .func (.func 62) #[] #[])] m2 21 (.func (.func 63) #[] #[]) rfl rfl rfl rfl ?_; intro w3 m3 c3; have cW : Ch (fun _ => False) w w3 := (((((Ch.refl (fun _ => False) w).alloc (.map #[] 0)).trans c1 (fun j hj e => by subst e; omega)).trans c2 (fun j hj e => by subst e; omega)).trans c3 (fun j hj e => by subst e; omega)); have hqW := cW.blk hq id; have hW := h.keep cW; have hBW : B ≤ w3.heap.size := Nat.le_trans hB cW.size; have a4 : w3.cell? ⟨g, 4, none⟩ = some (.int .u8 0) := (hqW.cell 4).trans (by show some (Value.int .u8 q.ph) = _; rw [hph]); have HCW := hid cW; have HQW := hid hqW; have HW := hid hW; have HM := hid m3; clear cW hqW hW c1 m1 c2 m2 c3 m3) | (refine wpList_lookup_u8 rfl _ _ 111 rfl _ _ Try.underlying111 Try.underlying5 w.heap.size [(19, .func (.func 61) #[] #[]), (20, .func (.func 62) #[] #[]), (21, .func (.func 63) #[] #[])] HM.out 0 .nilFunc (Try.zeroValue110 _) rfl rfl .nilFunc rfl ?_) | fail)
  go_quiet (fail)
  go_wp2_with fail
  go_ret2
  exact ⟨by rw [HPH.out]; rfl, lv, HW.out.drewN nq, HQW.out.drewN nq, (HCW.out.mono fun _ _ h => h.elim).drewN nq, .inl rfl⟩
end

/-- A step of a pull. -/
theorem lstep_any (B p cb qb g : Nat) (lv : Value) (s : BS) (f : Qd) (pu : Value) (q : Pl) (w : World) (h : QueueM B w p cb qb lv s f pu) (hq : Blk w g 109 (plCells qb q)) (ht : 0 ≤ q.t ∧ q.t < 16) (hlen : s.lg.length < 1000000) (hB : B ≤ w.heap.size)
    (hat : 0 ≤ q.at' ∧ q.at' < 18446744073709551616) (hph : q.ph = 0 ∨ q.ph = 19 ∨ q.ph = 20 ∨ q.ph = 21) : Calls Try.prog 30 #[.pointer (some ⟨g, 0, none⟩)] w (LRes B p cb qb g lv f pu q (plstep s f q) w) := by
  rcases hph with e | e | e | e
  · have : plstep s f q = (s, q) := by unfold plstep; rw [if_neg (by rw [e]; decide), if_neg (by rw [e]; decide), if_neg (by rw [e]; decide)]
    rw [this]
    exact lstep0 B p cb qb g lv s f pu q w h hq ht hlen hB e
  · by_cases hc : lk s.vs (f.ent q.at') = 0
    · exact lstep19a B p cb qb g lv s f pu q w h hq ht hlen hB e (hid hat) hc
    · exact lstep19b B p cb qb g lv s f pu q w h hq ht hlen hB e (hid hat) hc
  · exact lstep20 B p cb qb g lv s f pu q w h hq ht hlen hB e (hid hat)
  · exact lstep21 B p cb qb g lv s f pu q w h hq ht hlen hB e
end Go.Proofs.Ytpkjjlahmjijnaa
