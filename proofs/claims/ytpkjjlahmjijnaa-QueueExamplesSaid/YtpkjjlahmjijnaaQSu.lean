/- The queue: the steps of a push that reserve and store. -/
import Derived.Test.YtpkjjlahmjijnaaQM
namespace Go.Proofs.Ytpkjjlahmjijnaa
open Go.RowKit
set_option linter.unusedVariables false
set_option linter.unusedSimpArgs false
set_option linter.unusedSectionVars false

section
variable (B p cb qb g : Nat) (lv : Value) (s : BS) (f : Qd) (pu : Value) (q : Pu) (w : World) (h : QueueM B w p cb qb lv s f pu) (hq : Blk w g 105 (puCells qb q)) (ht : 0 ≤ q.t ∧ q.t < 16) (hlen : s.lg.length < 1000000) (hB : B ≤ w.heap.size)
include h hq ht hlen hB

set_option maxRecDepth 100000 in
set_option maxHeartbeats 1000000 in
theorem u_res_a (hc : qT s f = q.fr) : Calls Try.prog 59 #[.pointer (some ⟨g, 0, none⟩)] w (SRes B p cb qb g 105 lv f pu (s.cas q.t f.tail q.fr (w64 (q.fr + 1))) (puCells qb { q with ph := 7 }) w) := by
  have a0 : w.cell? ⟨g, 0, none⟩ = some (.pointer (some ⟨qb, 0, none⟩)) := hq.cell 0
  have a1 : w.cell? ⟨g, 1, none⟩ = some (.int .i64 q.t) := hq.cell 1
  have a2 : w.cell? ⟨g, 2, none⟩ = some (.int .u64 q.v) := hq.cell 2
  have a3 : w.cell? ⟨g, 3, none⟩ = some (.int .u64 q.fr) := hq.cell 3
  have a4 : w.cell? ⟨g, 4, none⟩ = some (.int .u64 q.sn) := hq.cell 4
  have a5 : w.cell? ⟨g, 5, none⟩ = some (.int .u8 q.ph) := hq.cell 5
  have a6 : w.cell? ⟨g, 6, none⟩ = some (.int .i64 q.er) := hq.cell 6
  have b0 : w.cell? ⟨qb, 0, none⟩ = some (.pointer (some ⟨p, 0, none⟩)) := h.fd.cell 0
  have b1 : w.cell? ⟨qb, 1, none⟩ = some (.int .i64 f.head) := h.fd.cell 1
  have b2 : w.cell? ⟨qb, 2, none⟩ = some (.int .i64 f.tail) := h.fd.cell 2
  have b3 : w.cell? ⟨qb, 3, none⟩ = some (.int .i64 f.ring) := h.fd.cell 3
  have b4 : w.cell? ⟨qb, 4, none⟩ = some (.int .u64 f.n) := h.fd.cell 4
  have fa5 := hq.free 5
  have hn := h.hn
  have hkh := h.ok.h
  have hkt := h.ok.t
  have hkr := h.ok.r
  have hn1 := h.ok.n1
  have hn2 := h.ok.n2
  have hfine : s.fine q.t (f.tail : Nat) := ⟨ht.1, ht.2, by omega, by omega⟩
  have hw0 : IntKind.u64.wrap (q.fr + 1) = w64 (q.fr + 1) := w64_wrap _
  have hbd0 := w64_bd (q.fr + 1)
  obtain ⟨t1, ht1⟩ : ∃ t1, t1 = w64 (q.fr + 1) := ⟨_, rfl⟩
  rw [← ht1] at hw0 hbd0 ⊢
  have hcv : s.casv q.t (f.tail : Nat) q.fr = true := by
    unfold BS.casv; rw [if_pos hfine, Int.toNat_natCast]; exact decide_eq_true hc
  have hdo : s.doCas q.t (f.tail : Nat) q.fr t1 = s.cas q.t (f.tail : Nat) q.fr t1 := by unfold BS.doCas; rw [if_pos hfine]
  have her : s.err q.t (f.tail : Nat) = 0 := err_fine hfine
  have hlc : (s.cas q.t (f.tail : Nat) q.fr t1).vs.length = s.vs.length := by rw [cas_vs]; split <;> simp
  have Hcv := hid hcv
  have Hdo := hid hdo
  have Her := hid her
  have Hlc := hid hlc
  have Hbd := hid hbd0
  clear hc hcv hdo her ht1 hfine hlc hbd0
  go_enter Try.func59, Try.ntmps59
  go_wp2_with fail
  refine Mix.wp_region_mix (fun _ => True) (fun i => ([0, 0, 0, 0, 0, 0, 0, 0, 0, 0, 0, 0, 0, 0, 0, 0, 0, 0, 0, 0, 0, 0, 0, 0, 0, 0, 0, 2, 0, 0, 0, 0, 0] : List Nat).getD i 0) [0, 1, 2, 3, 4, 5, 6, 7, 8, 9, 10, 11, 12, 13, 14, 15, 16, 17, 18, 19, 20, 21, 22, 23, 24, 25, 26, 27, 28, 29, 30, 31, 32] (by kernel_rfl) (by kernel_rfl) ?_
  refine Mix.mix_world fun W0 hW0 => ?_
  have c0 : Ch (fun b => b = g) w W0 := by rw [hW0]; exact (Ch.refl (fun b => b = g) w).set (fun _ => rfl) _
  have hq0 : Blk W0 g 105 (puCells qb { q with ph := 4 }) := by rw [hW0]; exact hq.put 5 _
  have hz0 : W0.heap.size = w.heap.size := by rw [hW0]; simp
  have h0 := qown h hq c0
  have hs0 : B ≤ W0.heap.size := by omega
  clear hW0 a0 a1 a2 a3 a4 a5 a6 b0 b1 b2 b3 b4 fa5
  have a0 : W0.cell? ⟨g, 0, none⟩ = some (.pointer (some ⟨qb, 0, none⟩)) := hq0.cell 0
  have a1 : W0.cell? ⟨g, 1, none⟩ = some (.int .i64 q.t) := hq0.cell 1
  have a2 : W0.cell? ⟨g, 2, none⟩ = some (.int .u64 q.v) := hq0.cell 2
  have a3 : W0.cell? ⟨g, 3, none⟩ = some (.int .u64 q.fr) := hq0.cell 3
  have a4 : W0.cell? ⟨g, 4, none⟩ = some (.int .u64 q.sn) := hq0.cell 4
  have a5 : W0.cell? ⟨g, 5, none⟩ = some (.int .u8 4) := hq0.cell 5
  have a6 : W0.cell? ⟨g, 6, none⟩ = some (.int .i64 q.er) := hq0.cell 6
  have b0 : W0.cell? ⟨qb, 0, none⟩ = some (.pointer (some ⟨p, 0, none⟩)) := h0.fd.cell 0
  have b1 : W0.cell? ⟨qb, 1, none⟩ = some (.int .i64 f.head) := h0.fd.cell 1
  have b2 : W0.cell? ⟨qb, 2, none⟩ = some (.int .i64 f.tail) := h0.fd.cell 2
  have b3 : W0.cell? ⟨qb, 3, none⟩ = some (.int .i64 f.ring) := h0.fd.cell 3
  have b4 : W0.cell? ⟨qb, 4, none⟩ = some (.int .u64 f.n) := h0.fd.cell 4
  have fa5 := hq0.free 5
  have H0 := hid h0
  have HQ0 := hid hq0
  have HC0 := hid c0
  have HZ0 := hid hz0
  clear h0 hq0 c0 hz0
  repeat (first | (refine Mix.mix_q (by simp only [List.getElem?_toArray, List.getElem?_cons_zero, List.getElem?_cons_succ]; exact rfl) rfl ?_; go_big_quiet_step (fail); refine wpQuiet_nil ?_) | (refine Mix.mix_p (by simp only [List.getElem?_toArray, List.getElem?_cons_zero, List.getElem?_cons_succ]; exact rfl) rfl rfl ?_; go_big_quiet_step (fail); refine wpQuiet_nil ?_))
  refine Mix.mix_e (by simp only [List.getElem?_toArray, List.getElem?_cons_zero, List.getElem?_cons_succ]; exact rfl) rfl fun W hW => ?_
  obtain ⟨n1, rfl⟩ := hW
  go_wp2_with fail
  refine (cas_any B p cb lv s q.t (f.tail : Nat) _ (bank_drew H0.out.b n1) hlen hs0 q.fr t1 Hbd.out).mono ?_
  rintro e w1 ⟨rfl, hs1⟩
  rw [Hdo.out] at hs1
  rw [Hcv.out, Her.out]
  obtain ⟨lv', hb1, hc1, hf1, hfd, hqd⟩ := qafter H0.out HQ0.out hs1
  clear a0 a1 a2 a3 a4 a5 a6 b0 b1 b2 b3 b4 fa5
  have a0 : w1.cell? ⟨g, 0, none⟩ = some (.pointer (some ⟨qb, 0, none⟩)) := hqd.cell 0
  have a5 : w1.cell? ⟨g, 5, none⟩ = some (.int .u8 4) := hqd.cell 5
  have fa5 := hqd.free 5
  have Hb1 := hid hb1
  have Hc1 := hid hc1
  have Hf1 := hid hf1
  have Hfd := hid hfd
  have Hqd := hid hqd
  clear hs1 hb1 hc1 hf1 hfd hqd
  go_wp2_with fail
  repeat (first | (refine Mix.mix_q (by simp only [List.getElem?_toArray, List.getElem?_cons_zero, List.getElem?_cons_succ]; exact rfl) rfl ?_; go_big_quiet_step (fail); refine wpQuiet_nil ?_) | (refine Mix.mix_p (by simp only [List.getElem?_toArray, List.getElem?_cons_zero, List.getElem?_cons_succ]; exact rfl) rfl rfl ?_; go_big_quiet_step (fail); refine wpQuiet_nil ?_))
  intro n2
  go_wp2_with fail
  go_end0
  exact sres_close2 h Hb1.out ((HC0.out.mono fun _ _ h => .inr h).trans Hc1.out (fun _ _ h => .inl h)) (fresh_at Hf1.out HZ0.out) Hfd.out Hqd.out Hlc.out (((Ch.refl (fun b => b = g) w1).drewN n2).set (fun _ => rfl) _) ((Hqd.out.drewN n2).put 5 (.int .u8 7))

set_option maxRecDepth 100000 in
set_option maxHeartbeats 1000000 in
theorem u_res_b (hc : ¬ qT s f = q.fr) : Calls Try.prog 59 #[.pointer (some ⟨g, 0, none⟩)] w (SRes B p cb qb g 105 lv f pu (s.cas q.t f.tail q.fr (w64 (q.fr + 1))) (puCells qb { q with ph := 4 }) w) := by
  have a0 : w.cell? ⟨g, 0, none⟩ = some (.pointer (some ⟨qb, 0, none⟩)) := hq.cell 0
  have a1 : w.cell? ⟨g, 1, none⟩ = some (.int .i64 q.t) := hq.cell 1
  have a2 : w.cell? ⟨g, 2, none⟩ = some (.int .u64 q.v) := hq.cell 2
  have a3 : w.cell? ⟨g, 3, none⟩ = some (.int .u64 q.fr) := hq.cell 3
  have a4 : w.cell? ⟨g, 4, none⟩ = some (.int .u64 q.sn) := hq.cell 4
  have a5 : w.cell? ⟨g, 5, none⟩ = some (.int .u8 q.ph) := hq.cell 5
  have a6 : w.cell? ⟨g, 6, none⟩ = some (.int .i64 q.er) := hq.cell 6
  have b0 : w.cell? ⟨qb, 0, none⟩ = some (.pointer (some ⟨p, 0, none⟩)) := h.fd.cell 0
  have b1 : w.cell? ⟨qb, 1, none⟩ = some (.int .i64 f.head) := h.fd.cell 1
  have b2 : w.cell? ⟨qb, 2, none⟩ = some (.int .i64 f.tail) := h.fd.cell 2
  have b3 : w.cell? ⟨qb, 3, none⟩ = some (.int .i64 f.ring) := h.fd.cell 3
  have b4 : w.cell? ⟨qb, 4, none⟩ = some (.int .u64 f.n) := h.fd.cell 4
  have fa5 := hq.free 5
  have hn := h.hn
  have hkh := h.ok.h
  have hkt := h.ok.t
  have hkr := h.ok.r
  have hn1 := h.ok.n1
  have hn2 := h.ok.n2
  have hfine : s.fine q.t (f.tail : Nat) := ⟨ht.1, ht.2, by omega, by omega⟩
  have hw0 : IntKind.u64.wrap (q.fr + 1) = w64 (q.fr + 1) := w64_wrap _
  have hbd0 := w64_bd (q.fr + 1)
  obtain ⟨t1, ht1⟩ : ∃ t1, t1 = w64 (q.fr + 1) := ⟨_, rfl⟩
  rw [← ht1] at hw0 hbd0 ⊢
  have hcv : s.casv q.t (f.tail : Nat) q.fr = false := by
    unfold BS.casv; rw [if_pos hfine, Int.toNat_natCast]; exact decide_eq_false hc
  have hdo : s.doCas q.t (f.tail : Nat) q.fr t1 = s.cas q.t (f.tail : Nat) q.fr t1 := by unfold BS.doCas; rw [if_pos hfine]
  have her : s.err q.t (f.tail : Nat) = 0 := err_fine hfine
  have hlc : (s.cas q.t (f.tail : Nat) q.fr t1).vs.length = s.vs.length := by rw [cas_vs]; split <;> simp
  have Hcv := hid hcv
  have Hdo := hid hdo
  have Her := hid her
  have Hlc := hid hlc
  have Hbd := hid hbd0
  clear hc hcv hdo her ht1 hfine hlc hbd0
  go_enter Try.func59, Try.ntmps59
  go_wp2_with fail
  refine Mix.wp_region_mix (fun _ => True) (fun i => ([0, 0, 0, 0, 0, 0, 0, 0, 0, 0, 0, 0, 0, 0, 0, 0, 0, 0, 0, 0, 0, 0, 0, 0, 0, 0, 0, 2, 0, 0, 0, 0, 0] : List Nat).getD i 0) [0, 1, 2, 3, 4, 5, 6, 7, 8, 9, 10, 11, 12, 13, 14, 15, 16, 17, 18, 19, 20, 21, 22, 23, 24, 25, 26, 27, 28, 29, 30, 31, 32] (by kernel_rfl) (by kernel_rfl) ?_
  refine Mix.mix_world fun W0 hW0 => ?_
  have c0 : Ch (fun b => b = g) w W0 := by rw [hW0]; exact (Ch.refl (fun b => b = g) w).set (fun _ => rfl) _
  have hq0 : Blk W0 g 105 (puCells qb { q with ph := 4 }) := by rw [hW0]; exact hq.put 5 _
  have hz0 : W0.heap.size = w.heap.size := by rw [hW0]; simp
  have h0 := qown h hq c0
  have hs0 : B ≤ W0.heap.size := by omega
  clear hW0 a0 a1 a2 a3 a4 a5 a6 b0 b1 b2 b3 b4 fa5
  have a0 : W0.cell? ⟨g, 0, none⟩ = some (.pointer (some ⟨qb, 0, none⟩)) := hq0.cell 0
  have a1 : W0.cell? ⟨g, 1, none⟩ = some (.int .i64 q.t) := hq0.cell 1
  have a2 : W0.cell? ⟨g, 2, none⟩ = some (.int .u64 q.v) := hq0.cell 2
  have a3 : W0.cell? ⟨g, 3, none⟩ = some (.int .u64 q.fr) := hq0.cell 3
  have a4 : W0.cell? ⟨g, 4, none⟩ = some (.int .u64 q.sn) := hq0.cell 4
  have a5 : W0.cell? ⟨g, 5, none⟩ = some (.int .u8 4) := hq0.cell 5
  have a6 : W0.cell? ⟨g, 6, none⟩ = some (.int .i64 q.er) := hq0.cell 6
  have b0 : W0.cell? ⟨qb, 0, none⟩ = some (.pointer (some ⟨p, 0, none⟩)) := h0.fd.cell 0
  have b1 : W0.cell? ⟨qb, 1, none⟩ = some (.int .i64 f.head) := h0.fd.cell 1
  have b2 : W0.cell? ⟨qb, 2, none⟩ = some (.int .i64 f.tail) := h0.fd.cell 2
  have b3 : W0.cell? ⟨qb, 3, none⟩ = some (.int .i64 f.ring) := h0.fd.cell 3
  have b4 : W0.cell? ⟨qb, 4, none⟩ = some (.int .u64 f.n) := h0.fd.cell 4
  have fa5 := hq0.free 5
  have H0 := hid h0
  have HQ0 := hid hq0
  have HC0 := hid c0
  have HZ0 := hid hz0
  clear h0 hq0 c0 hz0
  repeat (first | (refine Mix.mix_q (by simp only [List.getElem?_toArray, List.getElem?_cons_zero, List.getElem?_cons_succ]; exact rfl) rfl ?_; go_big_quiet_step (fail); refine wpQuiet_nil ?_) | (refine Mix.mix_p (by simp only [List.getElem?_toArray, List.getElem?_cons_zero, List.getElem?_cons_succ]; exact rfl) rfl rfl ?_; go_big_quiet_step (fail); refine wpQuiet_nil ?_))
  refine Mix.mix_e (by simp only [List.getElem?_toArray, List.getElem?_cons_zero, List.getElem?_cons_succ]; exact rfl) rfl fun W hW => ?_
  obtain ⟨n1, rfl⟩ := hW
  go_wp2_with fail
  refine (cas_any B p cb lv s q.t (f.tail : Nat) _ (bank_drew H0.out.b n1) hlen hs0 q.fr t1 Hbd.out).mono ?_
  rintro e w1 ⟨rfl, hs1⟩
  rw [Hdo.out] at hs1
  rw [Hcv.out, Her.out]
  obtain ⟨lv', hb1, hc1, hf1, hfd, hqd⟩ := qafter H0.out HQ0.out hs1
  clear a0 a1 a2 a3 a4 a5 a6 b0 b1 b2 b3 b4 fa5
  have a0 : w1.cell? ⟨g, 0, none⟩ = some (.pointer (some ⟨qb, 0, none⟩)) := hqd.cell 0
  have a5 : w1.cell? ⟨g, 5, none⟩ = some (.int .u8 4) := hqd.cell 5
  have fa5 := hqd.free 5
  have Hb1 := hid hb1
  have Hc1 := hid hc1
  have Hf1 := hid hf1
  have Hfd := hid hfd
  have Hqd := hid hqd
  clear hs1 hb1 hc1 hf1 hfd hqd
  go_wp2_with fail
  repeat (first | (refine Mix.mix_q (by simp only [List.getElem?_toArray, List.getElem?_cons_zero, List.getElem?_cons_succ]; exact rfl) rfl ?_; go_big_quiet_step (fail); refine wpQuiet_nil ?_) | (refine Mix.mix_p (by simp only [List.getElem?_toArray, List.getElem?_cons_zero, List.getElem?_cons_succ]; exact rfl) rfl rfl ?_; go_big_quiet_step (fail); refine wpQuiet_nil ?_))
  intro n2
  go_wp2_with fail
  go_end0
  exact sres_close2 h Hb1.out ((HC0.out.mono fun _ _ h => .inr h).trans Hc1.out (fun _ _ h => .inl h)) (fresh_at Hf1.out HZ0.out) Hfd.out Hqd.out Hlc.out ((Ch.refl (fun b => b = g) w1).drewN n2) (Hqd.out.drewN n2)

set_option maxRecDepth 100000 in
set_option maxHeartbeats 1000000 in
theorem u_enter (hv : 0 ≤ q.v ∧ q.v < 18446744073709551616) (hfr : 0 ≤ q.fr ∧ q.fr < 18446744073709551616) : Calls Try.prog 60 #[.pointer (some ⟨g, 0, none⟩)] w (SRes B p cb qb g 105 lv f pu (s.store q.t (f.ent q.fr : Nat) q.v) (puCells qb { q with ph := 0 }) w) := by
  have a0 : w.cell? ⟨g, 0, none⟩ = some (.pointer (some ⟨qb, 0, none⟩)) := hq.cell 0
  have a1 : w.cell? ⟨g, 1, none⟩ = some (.int .i64 q.t) := hq.cell 1
  have a2 : w.cell? ⟨g, 2, none⟩ = some (.int .u64 q.v) := hq.cell 2
  have a3 : w.cell? ⟨g, 3, none⟩ = some (.int .u64 q.fr) := hq.cell 3
  have a4 : w.cell? ⟨g, 4, none⟩ = some (.int .u64 q.sn) := hq.cell 4
  have a5 : w.cell? ⟨g, 5, none⟩ = some (.int .u8 q.ph) := hq.cell 5
  have a6 : w.cell? ⟨g, 6, none⟩ = some (.int .i64 q.er) := hq.cell 6
  have b0 : w.cell? ⟨qb, 0, none⟩ = some (.pointer (some ⟨p, 0, none⟩)) := h.fd.cell 0
  have b1 : w.cell? ⟨qb, 1, none⟩ = some (.int .i64 f.head) := h.fd.cell 1
  have b2 : w.cell? ⟨qb, 2, none⟩ = some (.int .i64 f.tail) := h.fd.cell 2
  have b3 : w.cell? ⟨qb, 3, none⟩ = some (.int .i64 f.ring) := h.fd.cell 3
  have b4 : w.cell? ⟨qb, 4, none⟩ = some (.int .u64 f.n) := h.fd.cell 4
  have fa5 := hq.free 5
  have hn := h.hn
  have hkh := h.ok.h
  have hkt := h.ok.t
  have hkr := h.ok.r
  have hn1 := h.ok.n1
  have hn2 := h.ok.n2
  have hel := ent_lt h.ok q.fr
  have Hv := hid hv
  have Hfr := hid hfr
  clear hv hfr
  go_enter Try.func60, Try.ntmps60
  go_wp2_with fail
  refine Mix.wp_region_mix (fun _ => True) (fun i => ([0, 0, 0, 0, 0, 0, 0, 0, 0, 0, 0, 0, 0, 0, 0, 0, 0, 0, 0, 0, 0, 0, 0, 0, 2] : List Nat).getD i 0) [0, 1, 2, 3, 4, 5, 6, 7, 8, 9, 10, 11, 12, 13, 14, 15, 16, 17, 18, 19, 20, 21, 22, 23, 24] (by kernel_rfl) (by kernel_rfl) ?_
  repeat (first | (refine Mix.mix_q (by simp only [List.getElem?_toArray, List.getElem?_cons_zero, List.getElem?_cons_succ]; exact rfl) rfl ?_; go_big_quiet_step ((go_at_call 56; exact qent_q B p cb qb lv s f pu q.fr w h Hfr.out _)); refine wpQuiet_nil ?_) | (refine Mix.mix_p (by simp only [List.getElem?_toArray, List.getElem?_cons_zero, List.getElem?_cons_succ]; exact rfl) rfl rfl ?_; go_big_quiet_step (fail); refine wpQuiet_nil ?_))
  refine Mix.mix_e (by simp only [List.getElem?_toArray, List.getElem?_cons_zero, List.getElem?_cons_succ]; exact rfl) rfl fun W hW => ?_
  obtain ⟨n1, rfl⟩ := hW
  go_wp2_with fail
  refine (store_ok B p cb lv s q.t (f.ent q.fr : Nat) q.v _ (bank_drew h.b n1) ⟨ht.1, ht.2, by omega, by omega⟩ hlen hB Hv.out).mono ?_
  rintro e w1 ⟨rfl, hs1⟩
  obtain ⟨lv', hb1, hc1, hf1, hfd, hqd⟩ := qafter h hq hs1
  clear a0 a1 a2 a3 a4 a5 a6 b0 b1 b2 b3 b4 fa5
  have a0 : w1.cell? ⟨g, 0, none⟩ = some (.pointer (some ⟨qb, 0, none⟩)) := hqd.cell 0
  have a5 : w1.cell? ⟨g, 5, none⟩ = some (.int .u8 q.ph) := hqd.cell 5
  have b1 : w1.cell? ⟨qb, 1, none⟩ = some (.int .i64 f.head) := hfd.cell 1
  have b2 : w1.cell? ⟨qb, 2, none⟩ = some (.int .i64 f.tail) := hfd.cell 2
  have b4 : w1.cell? ⟨qb, 4, none⟩ = some (.int .u64 f.n) := hfd.cell 4
  have fa5 := hqd.free 5
  have hne := hfd.ne hqd (by decide)
  have hne' := Ne.symm hne
  have Hb1 := hid hb1
  have Hc1 := hid hc1
  have Hf1 := hid hf1
  have Hfd := hid hfd
  have Hqd := hid hqd
  clear hs1 hb1 hc1 hf1 hfd hqd
  go_wp2_with fail
  repeat (first | (refine Mix.mix_q (by simp only [List.getElem?_toArray, List.getElem?_cons_zero, List.getElem?_cons_succ]; exact rfl) rfl ?_; go_big_quiet_step (fail); refine wpQuiet_nil ?_) | (refine Mix.mix_p (by simp only [List.getElem?_toArray, List.getElem?_cons_zero, List.getElem?_cons_succ]; exact rfl) rfl rfl ?_; go_big_quiet_step (fail); refine wpQuiet_nil ?_))
  intro n2
  go_wp2_with fail
  go_end0
  exact sres_close2 h Hb1.out (Hc1.out.mono fun _ _ h => .inl h) Hf1.out Hfd.out Hqd.out (List.length_set ..) (((Ch.refl (fun b => b = g) w1).drewN n2).set (fun _ => rfl) _) ((Hqd.out.drewN n2).put 5 (.int .u8 0))
end
end Go.Proofs.Ytpkjjlahmjijnaa
