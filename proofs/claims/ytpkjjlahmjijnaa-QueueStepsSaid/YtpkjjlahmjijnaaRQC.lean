/- The steps of the reference's pulls. -/
import Derived.Test.YtpkjjlahmjijnaaRQB
namespace Go.Proofs.Ytpkjjlahmjijnaa
open Go.RowKit
set_option linter.unusedVariables false
set_option linter.unusedSimpArgs false
set_option linter.unusedSectionVars false

section
variable (B rp vb rq g : Nat) (mv : Value) (s : BS) (f : Qd) (bs : Bool) (q : Pl) (w : World) (h : RQuM B w rp vb rq mv s f bs) (hq : Blk w g 115 (rplCells rq q)) (ht : 0 ≤ q.t ∧ q.t < 16) (hlen : s.lg.length < 1000000) (hB : B ≤ w.heap.size)
include h hq ht hlen hB
set_option maxRecDepth 100000 in
set_option maxHeartbeats 1000000 in
theorem rls19a (hat : q.at' = qH s f) (hx : 0 ≤ qH s f ∧ qH s f < 18446744073709551616) (hph : q.ph = 19) (hc : lk s.vs (f.ent q.at') = 0) : Calls Try.prog 39 #[.pointer (some ⟨g, 0, none⟩)] w (RQRes B rp vb rq g 115 mv f (s.load q.t (f.ent q.at' : Nat)) false (rplCells rq { q with got := 0, ph := 0, er := 17 }) w (.tuple #[.int .u8 q.ph, .bool true])) := by
  have n_rq_g := h.fd.ne hq (by decide)
  have n_g_rq := Ne.symm n_rq_g
  have a0 : w.cell? ⟨g, 0, none⟩ = some (.pointer (some ⟨rq, 0, none⟩)) := hq.cell 0
  have a1 : w.cell? ⟨g, 1, none⟩ = some (.int .i64 q.t) := hq.cell 1
  have a3 : w.cell? ⟨g, 3, none⟩ = some (.int .u8 q.ph) := hq.cell 3
  have b0 : w.cell? ⟨rq, 0, none⟩ = some (.pointer (some ⟨rp, 0, none⟩)) := h.fd.cell 0
  have b1 : w.cell? ⟨rq, 1, none⟩ = some (.int .i64 f.head) := h.fd.cell 1
  have bp19 : (q.ph == 19) = true := by rw [beq_iff_eq]; exact hph
  have bp20 : (q.ph == 20) = false := by rw [beq_eq_false_iff_ne, hph]; decide
  have bp21 : (q.ph == 21) = false := by rw [beq_eq_false_iff_ne, hph]; decide
  have bp0 : (q.ph == 0) = false := by rw [beq_eq_false_iff_ne, hph]; decide
  have hn := h.r.hn
  have hkh := h.ok.h
  have hkt := h.ok.t
  have hkr := h.ok.r
  have hn1 := h.ok.n1
  have hn2 := h.ok.n2
  have r0 : w.cell? ⟨rp, 0, none⟩ = some (.slice (some ⟨vb, 0, none⟩) s.vs.length s.vs.length) := h.r.hp.cell 0
  have dh : decide (f.head < s.vs.length) = true := decide_eq_true hkh
  obtain ⟨x, hxx⟩ : ∃ x, x = qH s f := ⟨_, rfl⟩
  rw [← hxx] at hat hx
  have vh : w.cell? ⟨vb, f.head, none⟩ = some (.int .u64 x) := by rw [hxx]; exact h.vcell f.head hkh
  have hel := ent_lt h.ok x
  have HX := hid hx
  rw [hat] at hc ⊢
  obtain ⟨v, hv⟩ : ∃ v, v = lk s.vs (f.ent x) := ⟨_, rfl⟩
  rw [← hv] at hc
  have bv : (v == 0) = true := by rw [beq_iff_eq]; exact hc
  have HV := hid hv
  have HC := hid hc
  have H := hid h
  have HQ := hid hq
  clear h hq hph hat hxx hx hv hc
  go_enter Try.func39, Try.ntmps39
  go_wp2_with fail
  go_quiet (fail)
  go_wp2_with fail
  go_quiet (fail)
  go_wp2_with fail
  refine Mix.wp_region_mix (fun _ => True) (fun i => ([1, 0, 0, 0, 0, 0, 0, 0, 0, 0, 0, 0, 2, 0, 0, 1, 0, 0, 2] : List Nat).getD i 0) [0, 1, 2, 3, 4, 5, 6, 7, 8, 9, 10, 11, 12, 13, 14, 15, 16, 17, 18] (by kernel_rfl) (by kernel_rfl) ?_
  refine Mix.mix_world fun W0 hW0 => ?_
  have M0 := hid (show RQuM B W0 rp vb rq mv s f bs by rw [hW0]; first | exact (H.out.drewN _).drewN _ | exact H.out.drewN _)
  have a0 : W0.cell? ⟨g, 0, none⟩ = some (.pointer (some ⟨rq, 0, none⟩)) := by rw [hW0]; exact a0
  have a1 : W0.cell? ⟨g, 1, none⟩ = some (.int .i64 q.t) := by rw [hW0]; exact a1
  have b0 : W0.cell? ⟨rq, 0, none⟩ = some (.pointer (some ⟨rp, 0, none⟩)) := by rw [hW0]; exact b0
  have HW0 := hid hW0
  clear hW0
  repeat (first | (refine Mix.mix_q (by simp only [List.getElem?_toArray, List.getElem?_cons_zero, List.getElem?_cons_succ]; exact rfl) rfl ?_; go_big_quiet_step ((go_at_call 66; exact rent_q B rp vb rq mv s f bs W0 M0.out x HX.out _)); refine wpQuiet_nil ?_) | (refine Mix.mix_p (by simp only [List.getElem?_toArray, List.getElem?_cons_zero, List.getElem?_cons_succ]; exact rfl) rfl rfl ?_; go_big_quiet_step (fail); refine wpQuiet_nil ?_))
  refine Mix.mix_e (by simp only [List.getElem?_toArray, List.getElem?_cons_zero, List.getElem?_cons_succ]; exact rfl) rfl fun W hW => ?_
  obtain ⟨n1, rfl⟩ := hW
  rw [HW0.out]
  go_wp2_with fail
  refine calls_world fun WW hWW => ?_
  obtain ⟨nn, hnn⟩ : ∃ nn, WW = w.drewN nn := by
    rw [hWW]
    first | exact ⟨_, rfl⟩ | exact ⟨_, (World.drewN_drewN _ _ _)⟩ | exact ⟨_, by rw [World.drewN_drewN]⟩ | exact ⟨_, by rw [World.drewN_drewN, World.drewN_drewN]⟩
  rw [hnn]
  clear hWW hnn
  refine (rload_ok B rp vb mv s q.t (f.ent x : Nat) _ (rbank_drew H.out.r nn) hlen hB ⟨ht.1, ht.2, by omega, by omega⟩).mono ?_
  rintro e w1 ⟨rfl, hs1⟩
  clear M0 HW0
  obtain ⟨mv', hb1, hc1, hf1, hfd, hqd⟩ := rqafter H.out HQ.out hs1
  clear a0 a1 a3 b0 b1 r0 vh hs1
  have a2 : w1.cell? ⟨g, 2, none⟩ = some (.int .u64 q.got) := hqd.cell 2
  have a3 : w1.cell? ⟨g, 3, none⟩ = some (.int .u8 q.ph) := hqd.cell 3
  have a4 : w1.cell? ⟨g, 4, none⟩ = some (.int .i64 q.er) := hqd.cell 4
  have b5 : w1.cell? ⟨rq, 5, none⟩ = some (.bool bs) := hfd.cell 5
  have fa2 := hqd.free 2
  have fa3 := hqd.free 3
  have fa4 := hqd.free 4
  have fb5 := hfd.free 5
  have Hb1 := hid hb1
  have Hc1 := hid hc1
  have Hf1 := hid hf1
  have Hfd := hid hfd
  have Hqd := hid hqd
  clear hb1 hc1 hf1 hfd hqd
  rw [Int.toNat_natCast, ← HV.out]
  go_wp2_with fail
  repeat (first | (refine Mix.mix_q (by simp only [List.getElem?_toArray, List.getElem?_cons_zero, List.getElem?_cons_succ]; exact rfl) rfl ?_; go_big_quiet_step (fail); refine wpQuiet_nil ?_) | (refine Mix.mix_p (by simp only [List.getElem?_toArray, List.getElem?_cons_zero, List.getElem?_cons_succ]; exact rfl) rfl rfl ?_; go_big_quiet_step (fail); refine wpQuiet_nil ?_))
  refine Mix.mix_e (by simp only [List.getElem?_toArray, List.getElem?_cons_zero, List.getElem?_cons_succ]; exact rfl) rfl fun W2 hW2 => ?_
  obtain ⟨n2, rfl⟩ := hW2
  go_wp2_with fail
  intro n3
  go_wp2_with fail
  refine Mix.wp_region_mix (fun _ => True) (fun i => ([0, 0, 0, 0, 0, 0, 0, 0] : List Nat).getD i 0) [0, 1, 2, 3, 4, 5, 6, 7] (by kernel_rfl) (by kernel_rfl) ?_
  refine Mix.mix_world fun W9 hW9 => ?_
  have K9 : Blk W9 g 115 (rplCells rq { q with got := v, ph := 0, er := 17 }) := by rw [hW9]; exact (((((((Hqd.out.drewN _).put 2 _).drewN _).put 3 _).put 3 _).put 4 _).far n_g_rq _)
  have f9 : W9.cell? ⟨g, 3, none⟩ = some (.int .u8 0) := K9.cell 3
  have HW9 := hid hW9
  clear hW9
  repeat (refine Mix.mix_q (by simp only [List.getElem?_toArray, List.getElem?_cons_zero, List.getElem?_cons_succ]; exact rfl) rfl ?_; go_big_quiet_step (fail); refine wpQuiet_nil ?_)
  intro n9
  go_wp2_with fail
  go_ret2
  rw [HW9.out]
  have HGZ : v = 0 := HC.out
  rw [HGZ]
  exact rqres_close H.out Hb1.out (Hc1.out.mono fun _ _ h => .inl h) Hf1.out Hfd.out Hqd.out rfl (((((((((Ch.refl (fun b => b = rq ∨ b = g) w1).drewN _).set (fun _ => .inr rfl) _).drewN _).set (fun _ => .inr rfl) _).set (fun _ => .inr rfl) _).set (fun _ => .inr rfl) _).set (fun _ => .inl rfl) _).drewN _) ((((((((Hfd.out.drewN _).far n_rq_g _).drewN _).far n_rq_g _).far n_rq_g _).far n_rq_g _).put 5 _).drewN _) ((((((((Hqd.out.drewN _).put 2 _).drewN _).put 3 _).put 3 _).put 4 _).far n_g_rq _).drewN _)
set_option maxRecDepth 100000 in
set_option maxHeartbeats 1000000 in
theorem rls19b (hat : q.at' = qH s f) (hx : 0 ≤ qH s f ∧ qH s f < 18446744073709551616) (hph : q.ph = 19) (hc : lk s.vs (f.ent q.at') ≠ 0) : Calls Try.prog 39 #[.pointer (some ⟨g, 0, none⟩)] w (RQRes B rp vb rq g 115 mv f (s.load q.t (f.ent q.at' : Nat)) bs (rplCells rq { q with got := lk s.vs (f.ent q.at'), ph := 20 }) w (.tuple #[.int .u8 q.ph, .bool false])) := by
  have n_rq_g := h.fd.ne hq (by decide)
  have n_g_rq := Ne.symm n_rq_g
  have a0 : w.cell? ⟨g, 0, none⟩ = some (.pointer (some ⟨rq, 0, none⟩)) := hq.cell 0
  have a1 : w.cell? ⟨g, 1, none⟩ = some (.int .i64 q.t) := hq.cell 1
  have a3 : w.cell? ⟨g, 3, none⟩ = some (.int .u8 q.ph) := hq.cell 3
  have b0 : w.cell? ⟨rq, 0, none⟩ = some (.pointer (some ⟨rp, 0, none⟩)) := h.fd.cell 0
  have b1 : w.cell? ⟨rq, 1, none⟩ = some (.int .i64 f.head) := h.fd.cell 1
  have bp19 : (q.ph == 19) = true := by rw [beq_iff_eq]; exact hph
  have bp20 : (q.ph == 20) = false := by rw [beq_eq_false_iff_ne, hph]; decide
  have bp21 : (q.ph == 21) = false := by rw [beq_eq_false_iff_ne, hph]; decide
  have bp0 : (q.ph == 0) = false := by rw [beq_eq_false_iff_ne, hph]; decide
  have hn := h.r.hn
  have hkh := h.ok.h
  have hkt := h.ok.t
  have hkr := h.ok.r
  have hn1 := h.ok.n1
  have hn2 := h.ok.n2
  have r0 : w.cell? ⟨rp, 0, none⟩ = some (.slice (some ⟨vb, 0, none⟩) s.vs.length s.vs.length) := h.r.hp.cell 0
  have dh : decide (f.head < s.vs.length) = true := decide_eq_true hkh
  obtain ⟨x, hxx⟩ : ∃ x, x = qH s f := ⟨_, rfl⟩
  rw [← hxx] at hat hx
  have vh : w.cell? ⟨vb, f.head, none⟩ = some (.int .u64 x) := by rw [hxx]; exact h.vcell f.head hkh
  have hel := ent_lt h.ok x
  have HX := hid hx
  rw [hat] at hc ⊢
  obtain ⟨v, hv⟩ : ∃ v, v = lk s.vs (f.ent x) := ⟨_, rfl⟩
  rw [← hv] at hc
  have bv : (v == 0) = false := by rw [beq_eq_false_iff_ne]; exact hc
  have HV := hid hv
  have HC := hid hc
  have H := hid h
  have HQ := hid hq
  clear h hq hph hat hxx hx hv hc
  go_enter Try.func39, Try.ntmps39
  go_wp2_with fail
  go_quiet (fail)
  go_wp2_with fail
  go_quiet (fail)
  go_wp2_with fail
  refine Mix.wp_region_mix (fun _ => True) (fun i => ([1, 0, 0, 0, 0, 0, 0, 0, 0, 0, 0, 0, 2, 0, 0, 1, 0, 0, 2] : List Nat).getD i 0) [0, 1, 2, 3, 4, 5, 6, 7, 8, 9, 10, 11, 12, 13, 14, 15, 16, 17, 18] (by kernel_rfl) (by kernel_rfl) ?_
  refine Mix.mix_world fun W0 hW0 => ?_
  have M0 := hid (show RQuM B W0 rp vb rq mv s f bs by rw [hW0]; first | exact (H.out.drewN _).drewN _ | exact H.out.drewN _)
  have a0 : W0.cell? ⟨g, 0, none⟩ = some (.pointer (some ⟨rq, 0, none⟩)) := by rw [hW0]; exact a0
  have a1 : W0.cell? ⟨g, 1, none⟩ = some (.int .i64 q.t) := by rw [hW0]; exact a1
  have b0 : W0.cell? ⟨rq, 0, none⟩ = some (.pointer (some ⟨rp, 0, none⟩)) := by rw [hW0]; exact b0
  have HW0 := hid hW0
  clear hW0
  repeat (first | (refine Mix.mix_q (by simp only [List.getElem?_toArray, List.getElem?_cons_zero, List.getElem?_cons_succ]; exact rfl) rfl ?_; go_big_quiet_step ((go_at_call 66; exact rent_q B rp vb rq mv s f bs W0 M0.out x HX.out _)); refine wpQuiet_nil ?_) | (refine Mix.mix_p (by simp only [List.getElem?_toArray, List.getElem?_cons_zero, List.getElem?_cons_succ]; exact rfl) rfl rfl ?_; go_big_quiet_step (fail); refine wpQuiet_nil ?_))
  refine Mix.mix_e (by simp only [List.getElem?_toArray, List.getElem?_cons_zero, List.getElem?_cons_succ]; exact rfl) rfl fun W hW => ?_
  obtain ⟨n1, rfl⟩ := hW
  rw [HW0.out]
  go_wp2_with fail
  refine calls_world fun WW hWW => ?_
  obtain ⟨nn, hnn⟩ : ∃ nn, WW = w.drewN nn := by
    rw [hWW]
    first | exact ⟨_, rfl⟩ | exact ⟨_, (World.drewN_drewN _ _ _)⟩ | exact ⟨_, by rw [World.drewN_drewN]⟩ | exact ⟨_, by rw [World.drewN_drewN, World.drewN_drewN]⟩
  rw [hnn]
  clear hWW hnn
  refine (rload_ok B rp vb mv s q.t (f.ent x : Nat) _ (rbank_drew H.out.r nn) hlen hB ⟨ht.1, ht.2, by omega, by omega⟩).mono ?_
  rintro e w1 ⟨rfl, hs1⟩
  clear M0 HW0
  obtain ⟨mv', hb1, hc1, hf1, hfd, hqd⟩ := rqafter H.out HQ.out hs1
  clear a0 a1 a3 b0 b1 r0 vh hs1
  have a2 : w1.cell? ⟨g, 2, none⟩ = some (.int .u64 q.got) := hqd.cell 2
  have a3 : w1.cell? ⟨g, 3, none⟩ = some (.int .u8 q.ph) := hqd.cell 3
  have a4 : w1.cell? ⟨g, 4, none⟩ = some (.int .i64 q.er) := hqd.cell 4
  have b5 : w1.cell? ⟨rq, 5, none⟩ = some (.bool bs) := hfd.cell 5
  have fa2 := hqd.free 2
  have fa3 := hqd.free 3
  have fa4 := hqd.free 4
  have fb5 := hfd.free 5
  have Hb1 := hid hb1
  have Hc1 := hid hc1
  have Hf1 := hid hf1
  have Hfd := hid hfd
  have Hqd := hid hqd
  clear hb1 hc1 hf1 hfd hqd
  rw [Int.toNat_natCast, ← HV.out]
  go_wp2_with fail
  repeat (first | (refine Mix.mix_q (by simp only [List.getElem?_toArray, List.getElem?_cons_zero, List.getElem?_cons_succ]; exact rfl) rfl ?_; go_big_quiet_step (fail); refine wpQuiet_nil ?_) | (refine Mix.mix_p (by simp only [List.getElem?_toArray, List.getElem?_cons_zero, List.getElem?_cons_succ]; exact rfl) rfl rfl ?_; go_big_quiet_step (fail); refine wpQuiet_nil ?_))
  refine Mix.mix_e (by simp only [List.getElem?_toArray, List.getElem?_cons_zero, List.getElem?_cons_succ]; exact rfl) rfl fun W2 hW2 => ?_
  obtain ⟨n2, rfl⟩ := hW2
  go_wp2_with fail
  intro n3
  go_wp2_with fail
  go_quiet (fail)
  go_wp2_with fail
  go_ret2
  rw [← HV.out]
  exact rqres_close H.out Hb1.out (Hc1.out.mono fun _ _ h => .inl h) Hf1.out Hfd.out Hqd.out rfl ((((((Ch.refl (fun b => b = rq ∨ b = g) w1).drewN _).set (fun _ => .inr rfl) _).drewN _).set (fun _ => .inr rfl) _).drewN _) (((((Hfd.out.drewN _).far n_rq_g _).drewN _).far n_rq_g _).drewN _) (((((Hqd.out.drewN _).put 2 _).drewN _).put 3 _).drewN _)
set_option maxRecDepth 100000 in
set_option maxHeartbeats 1000000 in
theorem rls20 (hat : q.at' = qH s f) (hx : 0 ≤ qH s f ∧ qH s f < 18446744073709551616) (hph : q.ph = 20) : Calls Try.prog 39 #[.pointer (some ⟨g, 0, none⟩)] w (RQRes B rp vb rq g 115 mv f (s.store q.t (f.ent q.at' : Nat) 0) bs (rplCells rq { q with ph := 21 }) w (.tuple #[.int .u8 q.ph, .bool false])) := by
  have n_rq_g := h.fd.ne hq (by decide)
  have n_g_rq := Ne.symm n_rq_g
  have a0 : w.cell? ⟨g, 0, none⟩ = some (.pointer (some ⟨rq, 0, none⟩)) := hq.cell 0
  have a1 : w.cell? ⟨g, 1, none⟩ = some (.int .i64 q.t) := hq.cell 1
  have a3 : w.cell? ⟨g, 3, none⟩ = some (.int .u8 q.ph) := hq.cell 3
  have b0 : w.cell? ⟨rq, 0, none⟩ = some (.pointer (some ⟨rp, 0, none⟩)) := h.fd.cell 0
  have b1 : w.cell? ⟨rq, 1, none⟩ = some (.int .i64 f.head) := h.fd.cell 1
  have bp19 : (q.ph == 19) = false := by rw [beq_eq_false_iff_ne, hph]; decide
  have bp20 : (q.ph == 20) = true := by rw [beq_iff_eq]; exact hph
  have bp21 : (q.ph == 21) = false := by rw [beq_eq_false_iff_ne, hph]; decide
  have bp0 : (q.ph == 0) = false := by rw [beq_eq_false_iff_ne, hph]; decide
  have hn := h.r.hn
  have hkh := h.ok.h
  have hkt := h.ok.t
  have hkr := h.ok.r
  have hn1 := h.ok.n1
  have hn2 := h.ok.n2
  have r0 : w.cell? ⟨rp, 0, none⟩ = some (.slice (some ⟨vb, 0, none⟩) s.vs.length s.vs.length) := h.r.hp.cell 0
  have dh : decide (f.head < s.vs.length) = true := decide_eq_true hkh
  obtain ⟨x, hxx⟩ : ∃ x, x = qH s f := ⟨_, rfl⟩
  rw [← hxx] at hat hx
  have vh : w.cell? ⟨vb, f.head, none⟩ = some (.int .u64 x) := by rw [hxx]; exact h.vcell f.head hkh
  have hel := ent_lt h.ok x
  have HX := hid hx
  rw [hat]
  have H := hid h
  have HQ := hid hq
  clear h hq hph hat hxx hx
  go_enter Try.func39, Try.ntmps39
  go_wp2_with fail
  go_quiet (fail)
  go_wp2_with fail
  go_quiet (fail)
  go_wp2_with fail
  refine Mix.wp_region_mix (fun _ => True) (fun i => ([0, 0, 0, 0, 0, 0, 0, 0, 0, 0, 0, 2] : List Nat).getD i 0) [0, 1, 2, 3, 4, 5, 6, 7, 8, 9, 10, 11] (by kernel_rfl) (by kernel_rfl) ?_
  refine Mix.mix_world fun W0 hW0 => ?_
  have M0 := hid (show RQuM B W0 rp vb rq mv s f bs by rw [hW0]; first | exact (H.out.drewN _).drewN _ | exact H.out.drewN _)
  have a0 : W0.cell? ⟨g, 0, none⟩ = some (.pointer (some ⟨rq, 0, none⟩)) := by rw [hW0]; exact a0
  have a1 : W0.cell? ⟨g, 1, none⟩ = some (.int .i64 q.t) := by rw [hW0]; exact a1
  have b0 : W0.cell? ⟨rq, 0, none⟩ = some (.pointer (some ⟨rp, 0, none⟩)) := by rw [hW0]; exact b0
  have HW0 := hid hW0
  clear hW0
  repeat (first | (refine Mix.mix_q (by simp only [List.getElem?_toArray, List.getElem?_cons_zero, List.getElem?_cons_succ]; exact rfl) rfl ?_; go_big_quiet_step ((go_at_call 66; exact rent_q B rp vb rq mv s f bs W0 M0.out x HX.out _)); refine wpQuiet_nil ?_) | (refine Mix.mix_p (by simp only [List.getElem?_toArray, List.getElem?_cons_zero, List.getElem?_cons_succ]; exact rfl) rfl rfl ?_; go_big_quiet_step (fail); refine wpQuiet_nil ?_))
  refine Mix.mix_e (by simp only [List.getElem?_toArray, List.getElem?_cons_zero, List.getElem?_cons_succ]; exact rfl) rfl fun W hW => ?_
  obtain ⟨n1, rfl⟩ := hW
  rw [HW0.out]
  go_wp2_with fail
  refine calls_world fun WW hWW => ?_
  obtain ⟨nn, hnn⟩ : ∃ nn, WW = w.drewN nn := by
    rw [hWW]
    first | exact ⟨_, rfl⟩ | exact ⟨_, (World.drewN_drewN _ _ _)⟩ | exact ⟨_, by rw [World.drewN_drewN]⟩ | exact ⟨_, by rw [World.drewN_drewN, World.drewN_drewN]⟩
  rw [hnn]
  clear hWW hnn
  refine (rstore_ok B rp vb mv s q.t (f.ent x : Nat) 0 _ (rbank_drew H.out.r nn) hlen hB ⟨ht.1, ht.2, by omega, by omega⟩).mono ?_
  rintro e w1 ⟨rfl, hs1⟩
  clear M0 HW0
  obtain ⟨mv', hb1, hc1, hf1, hfd, hqd⟩ := rqafter H.out HQ.out hs1
  clear a0 a1 a3 b0 b1 r0 vh hs1
  have a3 : w1.cell? ⟨g, 3, none⟩ = some (.int .u8 q.ph) := hqd.cell 3
  have fa3 := hqd.free 3
  have Hb1 := hid hb1
  have Hc1 := hid hc1
  have Hf1 := hid hf1
  have Hfd := hid hfd
  have Hqd := hid hqd
  clear hb1 hc1 hf1 hfd hqd
  go_wp2_with fail
  intro n2
  go_wp2_with fail
  go_quiet (fail)
  go_wp2_with fail
  go_ret2
  exact rqres_close H.out Hb1.out (Hc1.out.mono fun _ _ h => .inl h) Hf1.out Hfd.out Hqd.out (List.length_set ..) ((((Ch.refl (fun b => b = rq ∨ b = g) w1).drewN _).set (fun _ => .inr rfl) _).drewN _) (((Hfd.out.drewN _).far n_rq_g _).drewN _) (((Hqd.out.drewN _).put 3 _).drewN _)
set_option maxRecDepth 100000 in
set_option maxHeartbeats 1000000 in
theorem rls21 (hat : q.at' = qH s f) (hx : 0 ≤ qH s f ∧ qH s f < 18446744073709551616) (hph : q.ph = 21) : Calls Try.prog 39 #[.pointer (some ⟨g, 0, none⟩)] w (RQRes B rp vb rq g 115 mv f (s.store q.t f.head (w64 (q.at' + 1))) false (rplCells rq { q with ph := 0 }) w (.tuple #[.int .u8 q.ph, .bool true])) := by
  have n_rq_g := h.fd.ne hq (by decide)
  have n_g_rq := Ne.symm n_rq_g
  have a0 : w.cell? ⟨g, 0, none⟩ = some (.pointer (some ⟨rq, 0, none⟩)) := hq.cell 0
  have a1 : w.cell? ⟨g, 1, none⟩ = some (.int .i64 q.t) := hq.cell 1
  have a3 : w.cell? ⟨g, 3, none⟩ = some (.int .u8 q.ph) := hq.cell 3
  have b0 : w.cell? ⟨rq, 0, none⟩ = some (.pointer (some ⟨rp, 0, none⟩)) := h.fd.cell 0
  have b1 : w.cell? ⟨rq, 1, none⟩ = some (.int .i64 f.head) := h.fd.cell 1
  have bp19 : (q.ph == 19) = false := by rw [beq_eq_false_iff_ne, hph]; decide
  have bp20 : (q.ph == 20) = false := by rw [beq_eq_false_iff_ne, hph]; decide
  have bp21 : (q.ph == 21) = true := by rw [beq_iff_eq]; exact hph
  have bp0 : (q.ph == 0) = false := by rw [beq_eq_false_iff_ne, hph]; decide
  have hn := h.r.hn
  have hkh := h.ok.h
  have hkt := h.ok.t
  have hkr := h.ok.r
  have hn1 := h.ok.n1
  have hn2 := h.ok.n2
  have r0 : w.cell? ⟨rp, 0, none⟩ = some (.slice (some ⟨vb, 0, none⟩) s.vs.length s.vs.length) := h.r.hp.cell 0
  have dh : decide (f.head < s.vs.length) = true := decide_eq_true hkh
  obtain ⟨x, hxx⟩ : ∃ x, x = qH s f := ⟨_, rfl⟩
  rw [← hxx] at hat hx
  have vh : w.cell? ⟨vb, f.head, none⟩ = some (.int .u64 x) := by rw [hxx]; exact h.vcell f.head hkh
  rw [hat]
  have hw0 : IntKind.u64.wrap (x + 1) = w64 (x + 1) := w64_wrap _
  obtain ⟨t1, ht1⟩ : ∃ t1, t1 = w64 (x + 1) := ⟨_, rfl⟩
  rw [← ht1] at hw0 ⊢
  have H := hid h
  have HQ := hid hq
  clear h hq hph hat hxx hx ht1
  go_enter Try.func39, Try.ntmps39
  go_wp2_with fail
  go_quiet (fail)
  go_wp2_with fail
  go_quiet (fail)
  go_wp2_with fail
  refine Mix.wp_region_mix (fun _ => True) (fun i => ([0, 0, 0, 0, 0, 0, 0, 0, 0, 0, 0, 0, 0, 0, 2] : List Nat).getD i 0) [0, 1, 2, 3, 4, 5, 6, 7, 8, 9, 10, 11, 12, 13, 14] (by kernel_rfl) (by kernel_rfl) ?_
  repeat (first | (refine Mix.mix_q (by simp only [List.getElem?_toArray, List.getElem?_cons_zero, List.getElem?_cons_succ]; exact rfl) rfl ?_; go_big_quiet_step (fail); refine wpQuiet_nil ?_) | (refine Mix.mix_p (by simp only [List.getElem?_toArray, List.getElem?_cons_zero, List.getElem?_cons_succ]; exact rfl) rfl rfl ?_; go_big_quiet_step (fail); refine wpQuiet_nil ?_))
  refine Mix.mix_e (by simp only [List.getElem?_toArray, List.getElem?_cons_zero, List.getElem?_cons_succ]; exact rfl) rfl fun W hW => ?_
  obtain ⟨n1, rfl⟩ := hW
  go_wp2_with fail
  refine calls_world fun WW hWW => ?_
  obtain ⟨nn, hnn⟩ : ∃ nn, WW = w.drewN nn := by
    rw [hWW]
    first | exact ⟨_, rfl⟩ | exact ⟨_, (World.drewN_drewN _ _ _)⟩ | exact ⟨_, by rw [World.drewN_drewN]⟩ | exact ⟨_, by rw [World.drewN_drewN, World.drewN_drewN]⟩
  rw [hnn]
  clear hWW hnn
  refine (rstore_ok B rp vb mv s q.t (f.head : Nat) t1 _ (rbank_drew H.out.r nn) hlen hB ⟨ht.1, ht.2, by omega, by omega⟩).mono ?_
  rintro e w1 ⟨rfl, hs1⟩
  obtain ⟨mv', hb1, hc1, hf1, hfd, hqd⟩ := rqafter H.out HQ.out hs1
  clear a0 a1 a3 b0 b1 r0 vh hw0 hs1
  have a3 : w1.cell? ⟨g, 3, none⟩ = some (.int .u8 q.ph) := hqd.cell 3
  have b5 : w1.cell? ⟨rq, 5, none⟩ = some (.bool bs) := hfd.cell 5
  have fa3 := hqd.free 3
  have fb5 := hfd.free 5
  have Hb1 := hid hb1
  have Hc1 := hid hc1
  have Hf1 := hid hf1
  have Hfd := hid hfd
  have Hqd := hid hqd
  clear hb1 hc1 hf1 hfd hqd
  go_wp2_with fail
  intro n2
  go_wp2_with fail
  go_quiet (fail)
  go_wp2_with fail
  go_ret2
  exact rqres_close H.out Hb1.out (Hc1.out.mono fun _ _ h => .inl h) Hf1.out Hfd.out Hqd.out (List.length_set ..) (((((Ch.refl (fun b => b = rq ∨ b = g) w1).drewN _).set (fun _ => .inr rfl) _).set (fun _ => .inl rfl) _).drewN _) ((((Hfd.out.drewN _).far n_rq_g _).put 5 _).drewN _) ((((Hqd.out.drewN _).put 3 _).far n_g_rq _).drewN _)
set_option maxRecDepth 100000 in
set_option maxHeartbeats 1000000 in
theorem rls0 (hph : q.ph = 0) : Calls Try.prog 39 #[.pointer (some ⟨g, 0, none⟩)] w (RQRes B rp vb rq g 115 mv f s bs (rplCells rq q) w (.tuple #[.int .u8 q.ph, .bool true])) := by
  have n_rq_g := h.fd.ne hq (by decide)
  have n_g_rq := Ne.symm n_rq_g
  have a0 : w.cell? ⟨g, 0, none⟩ = some (.pointer (some ⟨rq, 0, none⟩)) := hq.cell 0
  have a3 : w.cell? ⟨g, 3, none⟩ = some (.int .u8 q.ph) := hq.cell 3
  have b0 : w.cell? ⟨rq, 0, none⟩ = some (.pointer (some ⟨rp, 0, none⟩)) := h.fd.cell 0
  have b1 : w.cell? ⟨rq, 1, none⟩ = some (.int .i64 f.head) := h.fd.cell 1
  have bp19 : (q.ph == 19) = false := by rw [beq_eq_false_iff_ne, hph]; decide
  have bp20 : (q.ph == 20) = false := by rw [beq_eq_false_iff_ne, hph]; decide
  have bp21 : (q.ph == 21) = false := by rw [beq_eq_false_iff_ne, hph]; decide
  have bp0 : (q.ph == 0) = true := by rw [beq_iff_eq]; exact hph
  have hn := h.r.hn
  have hkh := h.ok.h
  have hkt := h.ok.t
  have hkr := h.ok.r
  have hn1 := h.ok.n1
  have hn2 := h.ok.n2
  have r0 : w.cell? ⟨rp, 0, none⟩ = some (.slice (some ⟨vb, 0, none⟩) s.vs.length s.vs.length) := h.r.hp.cell 0
  have dh : decide (f.head < s.vs.length) = true := decide_eq_true hkh
  obtain ⟨x, hxx⟩ : ∃ x, x = qH s f := ⟨_, rfl⟩
  have vh : w.cell? ⟨vb, f.head, none⟩ = some (.int .u64 x) := by rw [hxx]; exact h.vcell f.head hkh
  have H := hid h
  have HQ := hid hq
  clear h hq hph hxx
  go_enter Try.func39, Try.ntmps39
  go_wp2_with fail
  go_quiet (fail)
  go_wp2_with fail
  go_quiet (fail)
  go_wp2_with fail
  go_quiet (fail)
  go_wp2_with fail
  go_ret2
  first | exact rqres_close H.out H.out.r (Ch.refl _ _) (.inl rfl) H.out.fd HQ.out rfl ((Ch.refl (fun b => b = rq ∨ b = g) w).drewN _) (H.out.fd.drewN _) (HQ.out.drewN _) | exact rqres_close H.out H.out.r (Ch.refl _ _) (.inl rfl) H.out.fd HQ.out rfl (((Ch.refl (fun b => b = rq ∨ b = g) w).drewN _).drewN _) ((H.out.fd.drewN _).drewN _) ((HQ.out.drewN _).drewN _) | exact rqres_close H.out H.out.r (Ch.refl _ _) (.inl rfl) H.out.fd HQ.out rfl ((((Ch.refl (fun b => b = rq ∨ b = g) w).drewN _).drewN _).drewN _) (((H.out.fd.drewN _).drewN _).drewN _) (((HQ.out.drewN _).drewN _).drewN _)
end
end Go.Proofs.Ytpkjjlahmjijnaa
