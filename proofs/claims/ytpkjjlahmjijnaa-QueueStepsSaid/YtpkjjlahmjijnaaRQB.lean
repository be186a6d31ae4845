/- The steps of the reference's pushes. -/
import Derived.Test.YtpkjjlahmjijnaaRQA
import Derived.Test.YtpkjjlahmjijnaaQPsteps
namespace Go.Proofs.Ytpkjjlahmjijnaa
open Go.RowKit
set_option linter.unusedVariables false
set_option linter.unusedSimpArgs false
set_option linter.unusedSectionVars false

theorem cas_len (s : BS) (t c o v : Int) : (s.cas t c o v).vs.length = s.vs.length := by
  rw [cas_vs]
  split
  · exact List.length_set ..
  · rfl
section
variable (B rp vb rq g : Nat) (mv : Value) (s : BS) (f : Qd) (bs : Bool) (q : Pu) (w : World) (h : RQuM B w rp vb rq mv s f bs) (hq : Blk w g 113 (rpuCells rq q)) (ht : 0 ≤ q.t ∧ q.t < 16) (hlen : s.lg.length < 1000000) (hB : B ≤ w.heap.size)
include h hq ht hlen hB
set_option maxRecDepth 100000 in
set_option maxHeartbeats 1000000 in
theorem rus4 (hph : q.ph = 4) : Calls Try.prog 36 #[.pointer (some ⟨g, 0, none⟩)] w (RQRes B rp vb rq g 113 mv f (s.load q.t f.tail) bs (rpuCells rq { q with fr := qT s f, ph := 5 }) w (.tuple #[.int .u8 q.ph, .bool false])) := by
  have n_rq_g := h.fd.ne hq (by decide)
  have n_g_rq := Ne.symm n_rq_g
  have a0 : w.cell? ⟨g, 0, none⟩ = some (.pointer (some ⟨rq, 0, none⟩)) := hq.cell 0
  have a1 : w.cell? ⟨g, 1, none⟩ = some (.int .i64 q.t) := hq.cell 1
  have a4 : w.cell? ⟨g, 4, none⟩ = some (.int .u8 q.ph) := hq.cell 4
  have b0 : w.cell? ⟨rq, 0, none⟩ = some (.pointer (some ⟨rp, 0, none⟩)) := h.fd.cell 0
  have b2 : w.cell? ⟨rq, 2, none⟩ = some (.int .i64 f.tail) := h.fd.cell 2
  have bp4 : (q.ph == 4) = true := by rw [beq_iff_eq]; exact hph
  have bp5 : (q.ph == 5) = false := by rw [beq_eq_false_iff_ne, hph]; decide
  have bp6 : (q.ph == 6) = false := by rw [beq_eq_false_iff_ne, hph]; decide
  have bp7 : (q.ph == 7) = false := by rw [beq_eq_false_iff_ne, hph]; decide
  have bp0 : (q.ph == 0) = false := by rw [beq_eq_false_iff_ne, hph]; decide
  have hn := h.r.hn
  have hkh := h.ok.h
  have hkt := h.ok.t
  have hkr := h.ok.r
  have hn1 := h.ok.n1
  have hn2 := h.ok.n2
  have H := hid h
  have HQ := hid hq
  clear h hq hph
  go_enter Try.func36, Try.ntmps36
  go_wp2_with fail
  go_quiet (fail)
  go_wp2_with fail
  refine Mix.wp_region_mix (fun _ => True) (fun i => ([1, 0, 0, 0, 0, 0, 0, 0, 0, 0, 0, 0, 0, 2, 0, 0, 1, 0, 0, 2] : List Nat).getD i 0) [0, 1, 2, 3, 4, 5, 6, 7, 8, 9, 10, 11, 12, 13, 14, 15, 16, 17, 18, 19] (by kernel_rfl) (by kernel_rfl) ?_
  repeat (first | (refine Mix.mix_q (by simp only [List.getElem?_toArray, List.getElem?_cons_zero, List.getElem?_cons_succ]; exact rfl) rfl ?_; go_big_quiet_step (fail); refine wpQuiet_nil ?_) | (refine Mix.mix_p (by simp only [List.getElem?_toArray, List.getElem?_cons_zero, List.getElem?_cons_succ]; exact rfl) rfl rfl ?_; go_big_quiet_step (fail); refine wpQuiet_nil ?_))
  refine Mix.mix_e (by simp only [List.getElem?_toArray, List.getElem?_cons_zero, List.getElem?_cons_succ]; exact rfl) rfl fun W hW => ?_
  obtain ⟨n1, rfl⟩ := hW
  go_wp2_with fail
  refine calls_world fun WW hWW => ?_
  obtain ⟨nn, hnn⟩ : ∃ nn, WW = w.drewN nn := by
    rw [hWW]
    first | exact ⟨_, rfl⟩ | exact ⟨_, (World.drewN_drewN _ _ _)⟩ | exact ⟨_, by rw [World.drewN_drewN]⟩ | exact ⟨_, by rw [World.drewN_drewN, World.drewN_drewN]⟩
  rw [hnn]
  clear hWW hnn
  refine (rload_ok B rp vb mv s q.t (f.tail : Nat) _ (rbank_drew H.out.r nn) hlen hB ⟨ht.1, ht.2, by omega, by omega⟩).mono ?_
  rintro e w1 ⟨rfl, hs1⟩
  obtain ⟨mv', hb1, hc1, hf1, hfd, hqd⟩ := rqafter H.out HQ.out hs1
  clear a0 a1 a4 b0 b2 hs1
  have a3 : w1.cell? ⟨g, 3, none⟩ = some (.int .u64 q.fr) := hqd.cell 3
  have a4 : w1.cell? ⟨g, 4, none⟩ = some (.int .u8 q.ph) := hqd.cell 4
  have fa3 := hqd.free 3
  have fa4 := hqd.free 4
  have Hb1 := hid hb1
  have Hc1 := hid hc1
  have Hf1 := hid hf1
  have Hfd := hid hfd
  have Hqd := hid hqd
  clear hb1 hc1 hf1 hfd hqd
  rw [Int.toNat_natCast]
  go_wp2_with fail
  repeat (first | (refine Mix.mix_q (by simp only [List.getElem?_toArray, List.getElem?_cons_zero, List.getElem?_cons_succ]; exact rfl) rfl ?_; go_big_quiet_step (fail); refine wpQuiet_nil ?_) | (refine Mix.mix_p (by simp only [List.getElem?_toArray, List.getElem?_cons_zero, List.getElem?_cons_succ]; exact rfl) rfl rfl ?_; go_big_quiet_step (fail); refine wpQuiet_nil ?_))
  refine Mix.mix_e (by simp only [List.getElem?_toArray, List.getElem?_cons_zero, List.getElem?_cons_succ]; exact rfl) rfl fun W2 hW2 => ?_
  obtain ⟨n2, rfl⟩ := hW2
  go_wp2_with fail
  intro n3
  go_wp2_with fail
  go_quiet (fail)
  go_wp2_with fail
  go_ret2
  exact rqres_close H.out Hb1.out (Hc1.out.mono fun _ _ h => .inl h) Hf1.out Hfd.out Hqd.out rfl ((((((Ch.refl (fun b => b = rq ∨ b = g) w1).drewN _).set (fun _ => .inr rfl) _).drewN _).set (fun _ => .inr rfl) _).drewN _) (((((Hfd.out.drewN _).far n_rq_g _).drewN _).far n_rq_g _).drewN _) (((((Hqd.out.drewN _).put 3 _).drewN _).put 4 _).drewN _)
set_option maxRecDepth 100000 in
set_option maxHeartbeats 1000000 in
theorem rus5a (hph : q.ph = 5) (hv : 0 ≤ q.fr ∧ q.fr < 18446744073709551616) (hx : 0 ≤ qH s f) (hc : q.fr < qH s f) : Calls Try.prog 36 #[.pointer (some ⟨g, 0, none⟩)] w (RQRes B rp vb rq g 113 mv f (s.load q.t f.head) bs (rpuCells rq { q with ph := 4 }) w (.tuple #[.int .u8 q.ph, .bool false])) := by
  have n_rq_g := h.fd.ne hq (by decide)
  have n_g_rq := Ne.symm n_rq_g
  have a0 : w.cell? ⟨g, 0, none⟩ = some (.pointer (some ⟨rq, 0, none⟩)) := hq.cell 0
  have a1 : w.cell? ⟨g, 1, none⟩ = some (.int .i64 q.t) := hq.cell 1
  have a4 : w.cell? ⟨g, 4, none⟩ = some (.int .u8 q.ph) := hq.cell 4
  have b0 : w.cell? ⟨rq, 0, none⟩ = some (.pointer (some ⟨rp, 0, none⟩)) := h.fd.cell 0
  have b1 : w.cell? ⟨rq, 1, none⟩ = some (.int .i64 f.head) := h.fd.cell 1
  have bp4 : (q.ph == 4) = false := by rw [beq_eq_false_iff_ne, hph]; decide
  have bp5 : (q.ph == 5) = true := by rw [beq_iff_eq]; exact hph
  have bp6 : (q.ph == 6) = false := by rw [beq_eq_false_iff_ne, hph]; decide
  have bp7 : (q.ph == 7) = false := by rw [beq_eq_false_iff_ne, hph]; decide
  have bp0 : (q.ph == 0) = false := by rw [beq_eq_false_iff_ne, hph]; decide
  have hn := h.r.hn
  have hkh := h.ok.h
  have hkt := h.ok.t
  have hkr := h.ok.r
  have hn1 := h.ok.n1
  have hn2 := h.ok.n2
  obtain ⟨x, hxx⟩ : ∃ x, x = qH s f := ⟨_, rfl⟩
  rw [← hxx] at hx
  rw [← hxx] at hc
  have dc : decide (q.fr < x) = true := decide_eq_true hc
  have HX := hid hxx
  have H := hid h
  have HQ := hid hq
  clear h hq hph hxx
  go_enter Try.func36, Try.ntmps36
  go_wp2_with fail
  go_quiet (fail)
  go_wp2_with fail
  refine Mix.wp_region_mix (fun _ => True) (fun i => ([0, 0, 0, 0, 0, 0, 0, 0, 0, 0, 0, 0, 2, 0, 0, 0, 0, 0] : List Nat).getD i 0) [0, 1, 2, 3, 4, 5, 6, 7, 8, 9, 10, 11, 12, 13, 14, 15, 16, 17] (by kernel_rfl) (by kernel_rfl) ?_
  repeat (first | (refine Mix.mix_q (by simp only [List.getElem?_toArray, List.getElem?_cons_zero, List.getElem?_cons_succ]; exact rfl) rfl ?_; go_big_quiet_step (fail); refine wpQuiet_nil ?_) | (refine Mix.mix_p (by simp only [List.getElem?_toArray, List.getElem?_cons_zero, List.getElem?_cons_succ]; exact rfl) rfl rfl ?_; go_big_quiet_step (fail); refine wpQuiet_nil ?_))
  refine Mix.mix_e (by simp only [List.getElem?_toArray, List.getElem?_cons_zero, List.getElem?_cons_succ]; exact rfl) rfl fun W hW => ?_
  obtain ⟨n1, rfl⟩ := hW
  go_wp2_with fail
  refine calls_world fun WW hWW => ?_
  obtain ⟨nn, hnn⟩ : ∃ nn, WW = w.drewN nn := by
    rw [hWW]
    first | exact ⟨_, rfl⟩ | exact ⟨_, (World.drewN_drewN _ _ _)⟩ | exact ⟨_, by rw [World.drewN_drewN]⟩ | exact ⟨_, by rw [World.drewN_drewN, World.drewN_drewN]⟩
  rw [hnn]
  clear hWW hnn
  refine (rload_ok B rp vb mv s q.t (f.head : Nat) _ (rbank_drew H.out.r nn) hlen hB ⟨ht.1, ht.2, by omega, by omega⟩).mono ?_
  rintro e w1 ⟨rfl, hs1⟩
  obtain ⟨mv', hb1, hc1, hf1, hfd, hqd⟩ := rqafter H.out HQ.out hs1
  clear a0 a1 a4 b0 b1 hs1
  have a3 : w1.cell? ⟨g, 3, none⟩ = some (.int .u64 q.fr) := hqd.cell 3
  have a4 : w1.cell? ⟨g, 4, none⟩ = some (.int .u8 q.ph) := hqd.cell 4
  have a5 : w1.cell? ⟨g, 5, none⟩ = some (.int .i64 q.er) := hqd.cell 5
  have b4 : w1.cell? ⟨rq, 4, none⟩ = some (.int .i64 f.n) := hfd.cell 4
  have fa4 := hqd.free 4
  have fa5 := hqd.free 5
  have Hb1 := hid hb1
  have Hc1 := hid hc1
  have Hf1 := hid hf1
  have Hfd := hid hfd
  have Hqd := hid hqd
  clear hb1 hc1 hf1 hfd hqd
  rw [Int.toNat_natCast, show lk s.vs f.head = x from HX.out.symm]
  go_wp2_with fail
  repeat (first | (refine Mix.mix_q (by simp only [List.getElem?_toArray, List.getElem?_cons_zero, List.getElem?_cons_succ]; exact rfl) rfl ?_; go_big_quiet_step (fail); refine wpQuiet_nil ?_) | (refine Mix.mix_p (by simp only [List.getElem?_toArray, List.getElem?_cons_zero, List.getElem?_cons_succ]; exact rfl) rfl rfl ?_; go_big_quiet_step (fail); refine wpQuiet_nil ?_))
  intro n2
  go_wp2_with fail
  go_quiet (fail)
  go_wp2_with fail
  go_ret2
  exact rqres_close H.out Hb1.out (Hc1.out.mono fun _ _ h => .inl h) Hf1.out Hfd.out Hqd.out rfl (((((Ch.refl (fun b => b = rq ∨ b = g) w1).drewN _).set (fun _ => .inr rfl) _).set (fun _ => .inr rfl) _).drewN _) ((((Hfd.out.drewN _).far n_rq_g _).far n_rq_g _).drewN _) ((((Hqd.out.drewN _).put 4 _).put 4 _).drewN _)
set_option maxRecDepth 100000 in
set_option maxHeartbeats 1000000 in
theorem rus5b (hph : q.ph = 5) (hv : 0 ≤ q.fr ∧ q.fr < 18446744073709551616) (hx : 0 ≤ qH s f) (hc : ¬ q.fr < qH s f) (hd : (f.n : Int) ≤ q.fr - qH s f) : Calls Try.prog 36 #[.pointer (some ⟨g, 0, none⟩)] w (RQRes B rp vb rq g 113 mv f (s.load q.t f.head) bs (rpuCells rq { q with ph := 0, er := 14 }) w (.tuple #[.int .u8 q.ph, .bool true])) := by
  have n_rq_g := h.fd.ne hq (by decide)
  have n_g_rq := Ne.symm n_rq_g
  have a0 : w.cell? ⟨g, 0, none⟩ = some (.pointer (some ⟨rq, 0, none⟩)) := hq.cell 0
  have a1 : w.cell? ⟨g, 1, none⟩ = some (.int .i64 q.t) := hq.cell 1
  have a4 : w.cell? ⟨g, 4, none⟩ = some (.int .u8 q.ph) := hq.cell 4
  have b0 : w.cell? ⟨rq, 0, none⟩ = some (.pointer (some ⟨rp, 0, none⟩)) := h.fd.cell 0
  have b1 : w.cell? ⟨rq, 1, none⟩ = some (.int .i64 f.head) := h.fd.cell 1
  have bp4 : (q.ph == 4) = false := by rw [beq_eq_false_iff_ne, hph]; decide
  have bp5 : (q.ph == 5) = true := by rw [beq_iff_eq]; exact hph
  have bp6 : (q.ph == 6) = false := by rw [beq_eq_false_iff_ne, hph]; decide
  have bp7 : (q.ph == 7) = false := by rw [beq_eq_false_iff_ne, hph]; decide
  have bp0 : (q.ph == 0) = false := by rw [beq_eq_false_iff_ne, hph]; decide
  have hn := h.r.hn
  have hkh := h.ok.h
  have hkt := h.ok.t
  have hkr := h.ok.r
  have hn1 := h.ok.n1
  have hn2 := h.ok.n2
  obtain ⟨x, hxx⟩ : ∃ x, x = qH s f := ⟨_, rfl⟩
  rw [← hxx] at hx
  rw [← hxx] at hc hd
  have dc : decide (q.fr < x) = false := decide_eq_false hc
  have dd : decide ((f.n : Int) ≤ q.fr - x) = true := decide_eq_true hd
  have hcv : IntKind.u64.wrap (f.n : Int) = (f.n : Int) := by rw [w64_wrap]; unfold w64; omega
  have hsb : IntKind.u64.wrap (q.fr - x) = q.fr - x := by rw [w64_wrap]; unfold w64; omega
  have HX := hid hxx
  have H := hid h
  have HQ := hid hq
  clear h hq hph hxx
  go_enter Try.func36, Try.ntmps36
  go_wp2_with fail
  go_quiet (fail)
  go_wp2_with fail
  refine Mix.wp_region_mix (fun _ => True) (fun i => ([0, 0, 0, 0, 0, 0, 0, 0, 0, 0, 0, 0, 2, 0, 0, 0, 0, 0] : List Nat).getD i 0) [0, 1, 2, 3, 4, 5, 6, 7, 8, 9, 10, 11, 12, 13, 14, 15, 16, 17] (by kernel_rfl) (by kernel_rfl) ?_
  repeat (first | (refine Mix.mix_q (by simp only [List.getElem?_toArray, List.getElem?_cons_zero, List.getElem?_cons_succ]; exact rfl) rfl ?_; go_big_quiet_step (fail); refine wpQuiet_nil ?_) | (refine Mix.mix_p (by simp only [List.getElem?_toArray, List.getElem?_cons_zero, List.getElem?_cons_succ]; exact rfl) rfl rfl ?_; go_big_quiet_step (fail); refine wpQuiet_nil ?_))
  refine Mix.mix_e (by simp only [List.getElem?_toArray, List.getElem?_cons_zero, List.getElem?_cons_succ]; exact rfl) rfl fun W hW => ?_
  obtain ⟨n1, rfl⟩ := hW
  go_wp2_with fail
  refine calls_world fun WW hWW => ?_
  obtain ⟨nn, hnn⟩ : ∃ nn, WW = w.drewN nn := by
    rw [hWW]
    first | exact ⟨_, rfl⟩ | exact ⟨_, (World.drewN_drewN _ _ _)⟩ | exact ⟨_, by rw [World.drewN_drewN]⟩ | exact ⟨_, by rw [World.drewN_drewN, World.drewN_drewN]⟩
  rw [hnn]
  clear hWW hnn
  refine (rload_ok B rp vb mv s q.t (f.head : Nat) _ (rbank_drew H.out.r nn) hlen hB ⟨ht.1, ht.2, by omega, by omega⟩).mono ?_
  rintro e w1 ⟨rfl, hs1⟩
  obtain ⟨mv', hb1, hc1, hf1, hfd, hqd⟩ := rqafter H.out HQ.out hs1
  clear a0 a1 a4 b0 b1 hs1
  have a3 : w1.cell? ⟨g, 3, none⟩ = some (.int .u64 q.fr) := hqd.cell 3
  have a4 : w1.cell? ⟨g, 4, none⟩ = some (.int .u8 q.ph) := hqd.cell 4
  have a5 : w1.cell? ⟨g, 5, none⟩ = some (.int .i64 q.er) := hqd.cell 5
  have b4 : w1.cell? ⟨rq, 4, none⟩ = some (.int .i64 f.n) := hfd.cell 4
  have fa4 := hqd.free 4
  have fa5 := hqd.free 5
  have Hb1 := hid hb1
  have Hc1 := hid hc1
  have Hf1 := hid hf1
  have Hfd := hid hfd
  have Hqd := hid hqd
  clear hb1 hc1 hf1 hfd hqd
  rw [Int.toNat_natCast, show lk s.vs f.head = x from HX.out.symm]
  go_wp2_with fail
  repeat (first | (refine Mix.mix_q (by simp only [List.getElem?_toArray, List.getElem?_cons_zero, List.getElem?_cons_succ]; exact rfl) rfl ?_; go_big_quiet_step (fail); refine wpQuiet_nil ?_) | (refine Mix.mix_p (by simp only [List.getElem?_toArray, List.getElem?_cons_zero, List.getElem?_cons_succ]; exact rfl) rfl rfl ?_; go_big_quiet_step (fail); refine wpQuiet_nil ?_))
  intro n2
  go_wp2_with fail
  go_quiet (fail)
  go_wp2_with fail
  go_quiet (fail)
  go_wp2_with fail
  go_ret2
  exact rqres_close H.out Hb1.out (Hc1.out.mono fun _ _ h => .inl h) Hf1.out Hfd.out Hqd.out rfl (((((((Ch.refl (fun b => b = rq ∨ b = g) w1).drewN _).set (fun _ => .inr rfl) _).drewN _).set (fun _ => .inr rfl) _).set (fun _ => .inr rfl) _).drewN _) ((((((Hfd.out.drewN _).far n_rq_g _).drewN _).far n_rq_g _).far n_rq_g _).drewN _) ((((((Hqd.out.drewN _).put 4 _).drewN _).put 4 _).put 5 _).drewN _)
set_option maxRecDepth 100000 in
set_option maxHeartbeats 1000000 in
theorem rus5c (hph : q.ph = 5) (hv : 0 ≤ q.fr ∧ q.fr < 18446744073709551616) (hx : 0 ≤ qH s f) (hc : ¬ q.fr < qH s f) (hd : ¬ (f.n : Int) ≤ q.fr - qH s f) : Calls Try.prog 36 #[.pointer (some ⟨g, 0, none⟩)] w (RQRes B rp vb rq g 113 mv f (s.load q.t f.head) bs (rpuCells rq { q with ph := 6 }) w (.tuple #[.int .u8 q.ph, .bool false])) := by
  have n_rq_g := h.fd.ne hq (by decide)
  have n_g_rq := Ne.symm n_rq_g
  have a0 : w.cell? ⟨g, 0, none⟩ = some (.pointer (some ⟨rq, 0, none⟩)) := hq.cell 0
  have a1 : w.cell? ⟨g, 1, none⟩ = some (.int .i64 q.t) := hq.cell 1
  have a4 : w.cell? ⟨g, 4, none⟩ = some (.int .u8 q.ph) := hq.cell 4
  have b0 : w.cell? ⟨rq, 0, none⟩ = some (.pointer (some ⟨rp, 0, none⟩)) := h.fd.cell 0
  have b1 : w.cell? ⟨rq, 1, none⟩ = some (.int .i64 f.head) := h.fd.cell 1
  have bp4 : (q.ph == 4) = false := by rw [beq_eq_false_iff_ne, hph]; decide
  have bp5 : (q.ph == 5) = true := by rw [beq_iff_eq]; exact hph
  have bp6 : (q.ph == 6) = false := by rw [beq_eq_false_iff_ne, hph]; decide
  have bp7 : (q.ph == 7) = false := by rw [beq_eq_false_iff_ne, hph]; decide
  have bp0 : (q.ph == 0) = false := by rw [beq_eq_false_iff_ne, hph]; decide
  have hn := h.r.hn
  have hkh := h.ok.h
  have hkt := h.ok.t
  have hkr := h.ok.r
  have hn1 := h.ok.n1
  have hn2 := h.ok.n2
  obtain ⟨x, hxx⟩ : ∃ x, x = qH s f := ⟨_, rfl⟩
  rw [← hxx] at hx
  rw [← hxx] at hc hd
  have dc : decide (q.fr < x) = false := decide_eq_false hc
  have dd : decide ((f.n : Int) ≤ q.fr - x) = false := decide_eq_false hd
  have hcv : IntKind.u64.wrap (f.n : Int) = (f.n : Int) := by rw [w64_wrap]; unfold w64; omega
  have hsb : IntKind.u64.wrap (q.fr - x) = q.fr - x := by rw [w64_wrap]; unfold w64; omega
  have HX := hid hxx
  have H := hid h
  have HQ := hid hq
  clear h hq hph hxx
  go_enter Try.func36, Try.ntmps36
  go_wp2_with fail
  go_quiet (fail)
  go_wp2_with fail
  refine Mix.wp_region_mix (fun _ => True) (fun i => ([0, 0, 0, 0, 0, 0, 0, 0, 0, 0, 0, 0, 2, 0, 0, 0, 0, 0] : List Nat).getD i 0) [0, 1, 2, 3, 4, 5, 6, 7, 8, 9, 10, 11, 12, 13, 14, 15, 16, 17] (by kernel_rfl) (by kernel_rfl) ?_
  repeat (first | (refine Mix.mix_q (by simp only [List.getElem?_toArray, List.getElem?_cons_zero, List.getElem?_cons_succ]; exact rfl) rfl ?_; go_big_quiet_step (fail); refine wpQuiet_nil ?_) | (refine Mix.mix_p (by simp only [List.getElem?_toArray, List.getElem?_cons_zero, List.getElem?_cons_succ]; exact rfl) rfl rfl ?_; go_big_quiet_step (fail); refine wpQuiet_nil ?_))
  refine Mix.mix_e (by simp only [List.getElem?_toArray, List.getElem?_cons_zero, List.getElem?_cons_succ]; exact rfl) rfl fun W hW => ?_
  obtain ⟨n1, rfl⟩ := hW
  go_wp2_with fail
  refine calls_world fun WW hWW => ?_
  obtain ⟨nn, hnn⟩ : ∃ nn, WW = w.drewN nn := by
    rw [hWW]
    first | exact ⟨_, rfl⟩ | exact ⟨_, (World.drewN_drewN _ _ _)⟩ | exact ⟨_, by rw [World.drewN_drewN]⟩ | exact ⟨_, by rw [World.drewN_drewN, World.drewN_drewN]⟩
  rw [hnn]
  clear hWW hnn
  refine (rload_ok B rp vb mv s q.t (f.head : Nat) _ (rbank_drew H.out.r nn) hlen hB ⟨ht.1, ht.2, by omega, by omega⟩).mono ?_
  rintro e w1 ⟨rfl, hs1⟩
  obtain ⟨mv', hb1, hc1, hf1, hfd, hqd⟩ := rqafter H.out HQ.out hs1
  clear a0 a1 a4 b0 b1 hs1
  have a3 : w1.cell? ⟨g, 3, none⟩ = some (.int .u64 q.fr) := hqd.cell 3
  have a4 : w1.cell? ⟨g, 4, none⟩ = some (.int .u8 q.ph) := hqd.cell 4
  have a5 : w1.cell? ⟨g, 5, none⟩ = some (.int .i64 q.er) := hqd.cell 5
  have b4 : w1.cell? ⟨rq, 4, none⟩ = some (.int .i64 f.n) := hfd.cell 4
  have fa4 := hqd.free 4
  have fa5 := hqd.free 5
  have Hb1 := hid hb1
  have Hc1 := hid hc1
  have Hf1 := hid hf1
  have Hfd := hid hfd
  have Hqd := hid hqd
  clear hb1 hc1 hf1 hfd hqd
  rw [Int.toNat_natCast, show lk s.vs f.head = x from HX.out.symm]
  go_wp2_with fail
  repeat (first | (refine Mix.mix_q (by simp only [List.getElem?_toArray, List.getElem?_cons_zero, List.getElem?_cons_succ]; exact rfl) rfl ?_; go_big_quiet_step (fail); refine wpQuiet_nil ?_) | (refine Mix.mix_p (by simp only [List.getElem?_toArray, List.getElem?_cons_zero, List.getElem?_cons_succ]; exact rfl) rfl rfl ?_; go_big_quiet_step (fail); refine wpQuiet_nil ?_))
  intro n2
  go_wp2_with fail
  go_quiet (fail)
  go_wp2_with fail
  go_quiet (fail)
  go_wp2_with fail
  go_ret2
  exact rqres_close H.out Hb1.out (Hc1.out.mono fun _ _ h => .inl h) Hf1.out Hfd.out Hqd.out rfl (((((Ch.refl (fun b => b = rq ∨ b = g) w1).drewN _).set (fun _ => .inr rfl) _).drewN _).drewN _) ((((Hfd.out.drewN _).far n_rq_g _).drewN _).drewN _) ((((Hqd.out.drewN _).put 4 _).drewN _).drewN _)
set_option maxRecDepth 100000 in
set_option maxHeartbeats 1000000 in
theorem rus6a (hph : q.ph = 6) (hc : qT s f = q.fr) : Calls Try.prog 36 #[.pointer (some ⟨g, 0, none⟩)] w (RQRes B rp vb rq g 113 mv f (s.cas q.t f.tail q.fr (w64 (q.fr + 1))) bs (rpuCells rq { q with ph := 7 }) w (.tuple #[.int .u8 q.ph, .bool false])) := by
  have n_rq_g := h.fd.ne hq (by decide)
  have n_g_rq := Ne.symm n_rq_g
  have a0 : w.cell? ⟨g, 0, none⟩ = some (.pointer (some ⟨rq, 0, none⟩)) := hq.cell 0
  have a1 : w.cell? ⟨g, 1, none⟩ = some (.int .i64 q.t) := hq.cell 1
  have a3 : w.cell? ⟨g, 3, none⟩ = some (.int .u64 q.fr) := hq.cell 3
  have a4 : w.cell? ⟨g, 4, none⟩ = some (.int .u8 q.ph) := hq.cell 4
  have b0 : w.cell? ⟨rq, 0, none⟩ = some (.pointer (some ⟨rp, 0, none⟩)) := h.fd.cell 0
  have b2 : w.cell? ⟨rq, 2, none⟩ = some (.int .i64 f.tail) := h.fd.cell 2
  have fa4 := hq.free 4
  have bp4 : (q.ph == 4) = false := by rw [beq_eq_false_iff_ne, hph]; decide
  have bp5 : (q.ph == 5) = false := by rw [beq_eq_false_iff_ne, hph]; decide
  have bp6 : (q.ph == 6) = true := by rw [beq_iff_eq]; exact hph
  have bp7 : (q.ph == 7) = false := by rw [beq_eq_false_iff_ne, hph]; decide
  have bp0 : (q.ph == 0) = false := by rw [beq_eq_false_iff_ne, hph]; decide
  have hn := h.r.hn
  have hkh := h.ok.h
  have hkt := h.ok.t
  have hkr := h.ok.r
  have hn1 := h.ok.n1
  have hn2 := h.ok.n2
  have hw0 : IntKind.u64.wrap (q.fr + 1) = w64 (q.fr + 1) := w64_wrap _
  obtain ⟨t1, ht1⟩ : ∃ t1, t1 = w64 (q.fr + 1) := ⟨_, rfl⟩
  rw [← ht1] at hw0 ⊢
  have HCC := hid hc
  have H := hid h
  have HQ := hid hq
  clear h hq hph ht1 hc
  go_enter Try.func36, Try.ntmps36
  go_wp2_with fail
  go_quiet (fail)
  go_wp2_with fail
  obtain ⟨W0, hW0⟩ : ∃ W0, W0 = (w.drewN nq).setCell ⟨g, 4, none⟩ (.int .u8 4) := ⟨_, rfl⟩
  have c0 : Ch (fun b => b = g) w W0 := by rw [hW0]; exact ((Ch.refl (fun b => b = g) w).drewN nq).set (fun _ => rfl) _
  have q0 : Blk W0 g 113 (rpuCells rq { q with ph := 4 }) := by rw [hW0]; exact (HQ.out.drewN nq).put 4 _
  have ng := H.out.r.out HQ.out (by decide) (by decide) (by decide)
  have m0 : RQuM B W0 rp vb rq mv s f bs := H.out.ch c0 (by
    rintro k (hk | hk) e
    · exact ng (e ▸ hk)
    · exact n_rq_g (hk.symm.trans e))
  have C0 := hid c0
  have Q0 := hid q0
  have M0 := hid m0
  have sz : w.heap.size ≤ W0.heap.size := c0.size
  clear a0 a1 a3 a4 b0 b2 fa4
  have a0 : W0.cell? ⟨g, 0, none⟩ = some (.pointer (some ⟨rq, 0, none⟩)) := q0.cell 0
  have a1 : W0.cell? ⟨g, 1, none⟩ = some (.int .i64 q.t) := q0.cell 1
  have a3 : W0.cell? ⟨g, 3, none⟩ = some (.int .u64 q.fr) := q0.cell 3
  have b0 : W0.cell? ⟨rq, 0, none⟩ = some (.pointer (some ⟨rp, 0, none⟩)) := m0.fd.cell 0
  have b2 : W0.cell? ⟨rq, 2, none⟩ = some (.int .i64 f.tail) := m0.fd.cell 2
  rw [← hW0]
  clear hW0 c0 q0 m0
  refine Mix.wp_region_mix (fun _ => True) (fun i => ([0, 0, 0, 0, 0, 0, 0, 0, 0, 0, 0, 0, 0, 0, 0, 0, 0, 0, 0, 0, 0, 2, 0, 0, 0, 0, 0] : List Nat).getD i 0) [0, 1, 2, 3, 4, 5, 6, 7, 8, 9, 10, 11, 12, 13, 14, 15, 16, 17, 18, 19, 20, 21, 22, 23, 24, 25, 26] (by kernel_rfl) (by kernel_rfl) ?_
  repeat (first | (refine Mix.mix_q (by simp only [List.getElem?_toArray, List.getElem?_cons_zero, List.getElem?_cons_succ]; exact rfl) rfl ?_; go_big_quiet_step (fail); refine wpQuiet_nil ?_) | (refine Mix.mix_p (by simp only [List.getElem?_toArray, List.getElem?_cons_zero, List.getElem?_cons_succ]; exact rfl) rfl rfl ?_; go_big_quiet_step (fail); refine wpQuiet_nil ?_))
  refine Mix.mix_e (by simp only [List.getElem?_toArray, List.getElem?_cons_zero, List.getElem?_cons_succ]; exact rfl) rfl fun W hW => ?_
  obtain ⟨n1, rfl⟩ := hW
  go_wp2_with fail
  refine (rcas_ok1 B rp vb mv s q.t (f.tail : Nat) q.fr t1 _ (rbank_drew M0.out.r n1) hlen (Nat.le_trans hB sz) ⟨ht.1, ht.2, by omega, by omega⟩ (by rw [Int.toNat_natCast]; exact HCC.out)).mono ?_
  rintro e w1 ⟨rfl, hs1⟩
  obtain ⟨mv', hb1, hc1, hf1, hfd, hqd⟩ := rqafter M0.out Q0.out hs1
  clear a0 a1 a3 b0 b2 hs1 hw0
  have a4 : w1.cell? ⟨g, 4, none⟩ = some (.int .u8 4) := hqd.cell 4
  have fa4 := hqd.free 4
  have Hb1 := hid hb1
  have Hc1 := hid ((C0.out.mono (fp' := fun b => FP rp vb mv b ∨ b = rq ∨ b = g) fun _ _ h => .inr (.inr h)).trans hc1 (fun _ _ h => .inl h))
  have Hf1 := hid (hf1.imp id fun h b hb => Nat.le_trans sz (h b hb) : Fresh w mv mv')
  have Hfd := hid hfd
  have Hqd := hid hqd
  clear hb1 hc1 hf1 hfd hqd
  go_wp2_with fail
  repeat (first | (refine Mix.mix_q (by simp only [List.getElem?_toArray, List.getElem?_cons_zero, List.getElem?_cons_succ]; exact rfl) rfl ?_; go_big_quiet_step (fail); refine wpQuiet_nil ?_) | (refine Mix.mix_p (by simp only [List.getElem?_toArray, List.getElem?_cons_zero, List.getElem?_cons_succ]; exact rfl) rfl rfl ?_; go_big_quiet_step (fail); refine wpQuiet_nil ?_))
  intro n2
  go_wp2_with fail
  go_quiet (fail)
  go_wp2_with fail
  go_ret2
  exact rqres_close H.out Hb1.out Hc1.out Hf1.out Hfd.out Hqd.out (cas_len ..) ((((Ch.refl (fun b => b = rq ∨ b = g) w1).drewN _).set (fun _ => .inr rfl) _).drewN _) (((Hfd.out.drewN _).far n_rq_g _).drewN _) (((Hqd.out.drewN _).put 4 _).drewN _)
set_option maxRecDepth 100000 in
set_option maxHeartbeats 1000000 in
theorem rus6b (hph : q.ph = 6) (hc : ¬ qT s f = q.fr) : Calls Try.prog 36 #[.pointer (some ⟨g, 0, none⟩)] w (RQRes B rp vb rq g 113 mv f (s.cas q.t f.tail q.fr (w64 (q.fr + 1))) bs (rpuCells rq { q with ph := 4 }) w (.tuple #[.int .u8 q.ph, .bool false])) := by
  have n_rq_g := h.fd.ne hq (by decide)
  have n_g_rq := Ne.symm n_rq_g
  have a0 : w.cell? ⟨g, 0, none⟩ = some (.pointer (some ⟨rq, 0, none⟩)) := hq.cell 0
  have a1 : w.cell? ⟨g, 1, none⟩ = some (.int .i64 q.t) := hq.cell 1
  have a3 : w.cell? ⟨g, 3, none⟩ = some (.int .u64 q.fr) := hq.cell 3
  have a4 : w.cell? ⟨g, 4, none⟩ = some (.int .u8 q.ph) := hq.cell 4
  have b0 : w.cell? ⟨rq, 0, none⟩ = some (.pointer (some ⟨rp, 0, none⟩)) := h.fd.cell 0
  have b2 : w.cell? ⟨rq, 2, none⟩ = some (.int .i64 f.tail) := h.fd.cell 2
  have fa4 := hq.free 4
  have bp4 : (q.ph == 4) = false := by rw [beq_eq_false_iff_ne, hph]; decide
  have bp5 : (q.ph == 5) = false := by rw [beq_eq_false_iff_ne, hph]; decide
  have bp6 : (q.ph == 6) = true := by rw [beq_iff_eq]; exact hph
  have bp7 : (q.ph == 7) = false := by rw [beq_eq_false_iff_ne, hph]; decide
  have bp0 : (q.ph == 0) = false := by rw [beq_eq_false_iff_ne, hph]; decide
  have hn := h.r.hn
  have hkh := h.ok.h
  have hkt := h.ok.t
  have hkr := h.ok.r
  have hn1 := h.ok.n1
  have hn2 := h.ok.n2
  have hw0 : IntKind.u64.wrap (q.fr + 1) = w64 (q.fr + 1) := w64_wrap _
  obtain ⟨t1, ht1⟩ : ∃ t1, t1 = w64 (q.fr + 1) := ⟨_, rfl⟩
  rw [← ht1] at hw0 ⊢
  have HCC := hid hc
  have H := hid h
  have HQ := hid hq
  clear h hq hph ht1 hc
  go_enter Try.func36, Try.ntmps36
  go_wp2_with fail
  go_quiet (fail)
  go_wp2_with fail
  obtain ⟨W0, hW0⟩ : ∃ W0, W0 = (w.drewN nq).setCell ⟨g, 4, none⟩ (.int .u8 4) := ⟨_, rfl⟩
  have c0 : Ch (fun b => b = g) w W0 := by rw [hW0]; exact ((Ch.refl (fun b => b = g) w).drewN nq).set (fun _ => rfl) _
  have q0 : Blk W0 g 113 (rpuCells rq { q with ph := 4 }) := by rw [hW0]; exact (HQ.out.drewN nq).put 4 _
  have ng := H.out.r.out HQ.out (by decide) (by decide) (by decide)
  have m0 : RQuM B W0 rp vb rq mv s f bs := H.out.ch c0 (by
    rintro k (hk | hk) e
    · exact ng (e ▸ hk)
    · exact n_rq_g (hk.symm.trans e))
  have C0 := hid c0
  have Q0 := hid q0
  have M0 := hid m0
  have sz : w.heap.size ≤ W0.heap.size := c0.size
  clear a0 a1 a3 a4 b0 b2 fa4
  have a0 : W0.cell? ⟨g, 0, none⟩ = some (.pointer (some ⟨rq, 0, none⟩)) := q0.cell 0
  have a1 : W0.cell? ⟨g, 1, none⟩ = some (.int .i64 q.t) := q0.cell 1
  have a3 : W0.cell? ⟨g, 3, none⟩ = some (.int .u64 q.fr) := q0.cell 3
  have b0 : W0.cell? ⟨rq, 0, none⟩ = some (.pointer (some ⟨rp, 0, none⟩)) := m0.fd.cell 0
  have b2 : W0.cell? ⟨rq, 2, none⟩ = some (.int .i64 f.tail) := m0.fd.cell 2
  rw [← hW0]
  clear hW0 c0 q0 m0
  refine Mix.wp_region_mix (fun _ => True) (fun i => ([0, 0, 0, 0, 0, 0, 0, 0, 0, 0, 0, 0, 0, 0, 0, 0, 0, 0, 0, 0, 0, 2, 0, 0, 0, 0, 0] : List Nat).getD i 0) [0, 1, 2, 3, 4, 5, 6, 7, 8, 9, 10, 11, 12, 13, 14, 15, 16, 17, 18, 19, 20, 21, 22, 23, 24, 25, 26] (by kernel_rfl) (by kernel_rfl) ?_
  repeat (first | (refine Mix.mix_q (by simp only [List.getElem?_toArray, List.getElem?_cons_zero, List.getElem?_cons_succ]; exact rfl) rfl ?_; go_big_quiet_step (fail); refine wpQuiet_nil ?_) | (refine Mix.mix_p (by simp only [List.getElem?_toArray, List.getElem?_cons_zero, List.getElem?_cons_succ]; exact rfl) rfl rfl ?_; go_big_quiet_step (fail); refine wpQuiet_nil ?_))
  refine Mix.mix_e (by simp only [List.getElem?_toArray, List.getElem?_cons_zero, List.getElem?_cons_succ]; exact rfl) rfl fun W hW => ?_
  obtain ⟨n1, rfl⟩ := hW
  go_wp2_with fail
  refine (rcas_ok0 B rp vb mv s q.t (f.tail : Nat) q.fr t1 _ (rbank_drew M0.out.r n1) hlen (Nat.le_trans hB sz) ⟨ht.1, ht.2, by omega, by omega⟩ (by rw [Int.toNat_natCast]; exact HCC.out)).mono ?_
  rintro e w1 ⟨rfl, hs1⟩
  obtain ⟨mv', hb1, hc1, hf1, hfd, hqd⟩ := rqafter M0.out Q0.out hs1
  clear a0 a1 a3 b0 b2 hs1 hw0
  have a4 : w1.cell? ⟨g, 4, none⟩ = some (.int .u8 4) := hqd.cell 4
  have fa4 := hqd.free 4
  have Hb1 := hid hb1
  have Hc1 := hid ((C0.out.mono (fp' := fun b => FP rp vb mv b ∨ b = rq ∨ b = g) fun _ _ h => .inr (.inr h)).trans hc1 (fun _ _ h => .inl h))
  have Hf1 := hid (hf1.imp id fun h b hb => Nat.le_trans sz (h b hb) : Fresh w mv mv')
  have Hfd := hid hfd
  have Hqd := hid hqd
  clear hb1 hc1 hf1 hfd hqd
  go_wp2_with fail
  repeat (first | (refine Mix.mix_q (by simp only [List.getElem?_toArray, List.getElem?_cons_zero, List.getElem?_cons_succ]; exact rfl) rfl ?_; go_big_quiet_step (fail); refine wpQuiet_nil ?_) | (refine Mix.mix_p (by simp only [List.getElem?_toArray, List.getElem?_cons_zero, List.getElem?_cons_succ]; exact rfl) rfl rfl ?_; go_big_quiet_step (fail); refine wpQuiet_nil ?_))
  intro n2
  go_wp2_with fail
  go_quiet (fail)
  go_wp2_with fail
  go_ret2
  exact rqres_close H.out Hb1.out Hc1.out Hf1.out Hfd.out Hqd.out (cas_len ..) (((Ch.refl (fun b => b = rq ∨ b = g) w1).drewN _).drewN _) ((Hfd.out.drewN _).drewN _) ((Hqd.out.drewN _).drewN _)
set_option maxRecDepth 100000 in
set_option maxHeartbeats 1000000 in
theorem rus7 (hph : q.ph = 7) (hfr : 0 ≤ q.fr ∧ q.fr < 18446744073709551616) : Calls Try.prog 36 #[.pointer (some ⟨g, 0, none⟩)] w (RQRes B rp vb rq g 113 mv f (s.store q.t (f.ent q.fr : Nat) q.v) bs (rpuCells rq { q with ph := 0 }) w (.tuple #[.int .u8 q.ph, .bool true])) := by
  have n_rq_g := h.fd.ne hq (by decide)
  have n_g_rq := Ne.symm n_rq_g
  have a0 : w.cell? ⟨g, 0, none⟩ = some (.pointer (some ⟨rq, 0, none⟩)) := hq.cell 0
  have a1 : w.cell? ⟨g, 1, none⟩ = some (.int .i64 q.t) := hq.cell 1
  have a2 : w.cell? ⟨g, 2, none⟩ = some (.int .u64 q.v) := hq.cell 2
  have a3 : w.cell? ⟨g, 3, none⟩ = some (.int .u64 q.fr) := hq.cell 3
  have a4 : w.cell? ⟨g, 4, none⟩ = some (.int .u8 q.ph) := hq.cell 4
  have b0 : w.cell? ⟨rq, 0, none⟩ = some (.pointer (some ⟨rp, 0, none⟩)) := h.fd.cell 0
  have bp4 : (q.ph == 4) = false := by rw [beq_eq_false_iff_ne, hph]; decide
  have bp5 : (q.ph == 5) = false := by rw [beq_eq_false_iff_ne, hph]; decide
  have bp6 : (q.ph == 6) = false := by rw [beq_eq_false_iff_ne, hph]; decide
  have bp7 : (q.ph == 7) = true := by rw [beq_iff_eq]; exact hph
  have bp0 : (q.ph == 0) = false := by rw [beq_eq_false_iff_ne, hph]; decide
  have hn := h.r.hn
  have hkh := h.ok.h
  have hkt := h.ok.t
  have hkr := h.ok.r
  have hn1 := h.ok.n1
  have hn2 := h.ok.n2
  have hel := ent_lt h.ok q.fr
  have HFR := hid hfr
  have H := hid h
  have HQ := hid hq
  clear h hq hph hfr
  go_enter Try.func36, Try.ntmps36
  go_wp2_with fail
  go_quiet (fail)
  go_wp2_with fail
  obtain ⟨W0, hW0⟩ : ∃ W0, W0 = w.drewN nq := ⟨_, rfl⟩
  have M0 := hid (show RQuM B W0 rp vb rq mv s f bs by rw [hW0]; exact H.out.drewN nq)
  have a0 : W0.cell? ⟨g, 0, none⟩ = some (.pointer (some ⟨rq, 0, none⟩)) := by rw [hW0]; exact a0
  have a1 : W0.cell? ⟨g, 1, none⟩ = some (.int .i64 q.t) := by rw [hW0]; exact a1
  have a2 : W0.cell? ⟨g, 2, none⟩ = some (.int .u64 q.v) := by rw [hW0]; exact a2
  have a3 : W0.cell? ⟨g, 3, none⟩ = some (.int .u64 q.fr) := by rw [hW0]; exact a3
  have b0 : W0.cell? ⟨rq, 0, none⟩ = some (.pointer (some ⟨rp, 0, none⟩)) := by rw [hW0]; exact b0
  have HW0 := hid hW0
  rw [← hW0]
  clear hW0
  refine Mix.wp_region_mix (fun _ => True) (fun i => ([0, 0, 0, 0, 0, 0, 0, 0, 0, 0, 0, 0, 0, 0, 0, 0, 0, 0, 2] : List Nat).getD i 0) [0, 1, 2, 3, 4, 5, 6, 7, 8, 9, 10, 11, 12, 13, 14, 15, 16, 17, 18] (by kernel_rfl) (by kernel_rfl) ?_
  repeat (first | (refine Mix.mix_q (by simp only [List.getElem?_toArray, List.getElem?_cons_zero, List.getElem?_cons_succ]; exact rfl) rfl ?_; go_big_quiet_step ((go_at_call 66; exact rent_q B rp vb rq mv s f bs W0 M0.out q.fr HFR.out _)); refine wpQuiet_nil ?_) | (refine Mix.mix_p (by simp only [List.getElem?_toArray, List.getElem?_cons_zero, List.getElem?_cons_succ]; exact rfl) rfl rfl ?_; go_big_quiet_step (fail); refine wpQuiet_nil ?_))
  refine Mix.mix_e (by simp only [List.getElem?_toArray, List.getElem?_cons_zero, List.getElem?_cons_succ]; exact rfl) rfl fun W hW => ?_
  obtain ⟨n1, rfl⟩ := hW
  rw [HW0.out]
  go_wp2_with fail
  refine calls_world fun WW hWW => ?_
  obtain ⟨nn, hnn⟩ : ∃ nn, WW = w.drewN nn := by
    rw [hWW]
    first | exact ⟨_, rfl⟩ | exact ⟨_, (World.drewN_drewN _ _ _)⟩ | exact ⟨_, by rw [World.drewN_drewN]⟩ | exact ⟨_, by rw [World.drewN_drewN, World.drewN_drewN]⟩
  rw [hnn]
  clear hWW hnn
  refine (rstore_ok B rp vb mv s q.t (f.ent q.fr : Nat) q.v _ (rbank_drew H.out.r nn) hlen hB ⟨ht.1, ht.2, by omega, by omega⟩).mono ?_
  rintro e w1 ⟨rfl, hs1⟩
  obtain ⟨mv', hb1, hc1, hf1, hfd, hqd⟩ := rqafter H.out HQ.out hs1
  clear a0 a1 a2 a3 a4 b0 hs1
  have a4 : w1.cell? ⟨g, 4, none⟩ = some (.int .u8 q.ph) := hqd.cell 4
  have fa4 := hqd.free 4
  have Hb1 := hid hb1
  have Hc1 := hid hc1
  have Hf1 := hid hf1
  have Hfd := hid hfd
  have Hqd := hid hqd
  clear hb1 hc1 hf1 hfd hqd
  go_wp2_with fail
  intro n2
  go_wp2_with fail
  go_quiet (fail)
  go_wp2_with fail
  go_ret2
  exact rqres_close H.out Hb1.out (Hc1.out.mono fun _ _ h => .inl h) Hf1.out Hfd.out Hqd.out (List.length_set ..) ((((Ch.refl (fun b => b = rq ∨ b = g) w1).drewN _).set (fun _ => .inr rfl) _).drewN _) (((Hfd.out.drewN _).far n_rq_g _).drewN _) (((Hqd.out.drewN _).put 4 _).drewN _)
set_option maxRecDepth 100000 in
set_option maxHeartbeats 400000 in
theorem rus0 (hph : q.ph = 0) : Calls Try.prog 36 #[.pointer (some ⟨g, 0, none⟩)] w (RQRes B rp vb rq g 113 mv f s bs (rpuCells rq q) w (.tuple #[.int .u8 q.ph, .bool true])) := by
  have n_rq_g := h.fd.ne hq (by decide)
  have n_g_rq := Ne.symm n_rq_g
  have a0 : w.cell? ⟨g, 0, none⟩ = some (.pointer (some ⟨rq, 0, none⟩)) := hq.cell 0
  have a4 : w.cell? ⟨g, 4, none⟩ = some (.int .u8 q.ph) := hq.cell 4
  have bp4 : (q.ph == 4) = false := by rw [beq_eq_false_iff_ne, hph]; decide
  have bp5 : (q.ph == 5) = false := by rw [beq_eq_false_iff_ne, hph]; decide
  have bp6 : (q.ph == 6) = false := by rw [beq_eq_false_iff_ne, hph]; decide
  have bp7 : (q.ph == 7) = false := by rw [beq_eq_false_iff_ne, hph]; decide
  have bp0 : (q.ph == 0) = true := by rw [beq_iff_eq]; exact hph
  have H := hid h
  have HQ := hid hq
  clear h hq hph
  go_enter Try.func36, Try.ntmps36
  go_wp2_with fail
  go_quiet (fail)
  go_wp2_with fail
  go_quiet (fail)
  go_wp2_with fail
  go_ret2
  first | exact rqres_close H.out H.out.r (Ch.refl _ _) (.inl rfl) H.out.fd HQ.out rfl ((Ch.refl (fun b => b = rq ∨ b = g) w).drewN _) (H.out.fd.drewN _) (HQ.out.drewN _) | exact rqres_close H.out H.out.r (Ch.refl _ _) (.inl rfl) H.out.fd HQ.out rfl (((Ch.refl (fun b => b = rq ∨ b = g) w).drewN _).drewN _) ((H.out.fd.drewN _).drewN _) ((HQ.out.drewN _).drewN _)
/-- A step of a push. -/
theorem rustep_any (hph : q.ph = 0 ∨ q.ph = 4 ∨ q.ph = 5 ∨ q.ph = 6 ∨ q.ph = 7) (hv : 0 ≤ q.fr ∧ q.fr < 18446744073709551616) (hx : 0 ≤ qH s f) : Calls Try.prog 36 #[.pointer (some ⟨g, 0, none⟩)] w (RQRes B rp vb rq g 113 mv f (pustep s f q).1 bs (rpuCells rq (pustep s f q).2) w (.tuple #[.int .u8 q.ph, .bool ((pustep s f q).2.ph == 0)])) := by
  have nz : ∀ k : Int, k ≠ 0 → (k == 0) = false := fun k hk => by rw [beq_eq_false_iff_ne]; exact hk
  rcases hph with e | e | e | e | e
  · have : pustep s f q = (s, q) := by unfold pustep; rw [if_neg (by rw [e]; decide), if_neg (by rw [e]; decide), if_neg (by rw [e]; decide), if_neg (by rw [e]; decide)]
    rw [this, show (q.ph == 0) = true by rw [e]; rfl]
    exact rus0 B rp vb rq g mv s f bs q w h hq ht hlen hB e
  · rw [pustep4 e]
    exact rus4 B rp vb rq g mv s f bs q w h hq ht hlen hB e
  · by_cases hc : q.fr < qH s f
    · rw [pustep5a e hc]
      exact (rus5a B rp vb rq g mv s f bs q w h hq ht hlen hB e hv hx hc).mono fun _ _ h => h
    · by_cases hd : (f.n : Int) ≤ q.fr - qH s f
      · rw [pustep5b e hc hd]
        exact (rus5b B rp vb rq g mv s f bs q w h hq ht hlen hB e hv hx hc hd).mono fun _ _ h => h
      · rw [pustep5c e hc hd]
        exact (rus5c B rp vb rq g mv s f bs q w h hq ht hlen hB e hv hx hc hd).mono fun _ _ h => h
  · by_cases hc : qT s f = q.fr
    · rw [pustep6a e hc]
      exact rus6a B rp vb rq g mv s f bs q w h hq ht hlen hB e hc
    · rw [pustep6b e hc]
      exact rus6b B rp vb rq g mv s f bs q w h hq ht hlen hB e hc
  · rw [pustep7 e]
    exact rus7 B rp vb rq g mv s f bs q w h hq ht hlen hB e hv
end
end Go.Proofs.Ytpkjjlahmjijnaa
