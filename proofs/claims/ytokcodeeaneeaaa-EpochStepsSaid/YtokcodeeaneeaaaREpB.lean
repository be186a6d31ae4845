/- The steps of the reference's pins and scans. -/
import Derived.Test.YtokcodeeaneeaaaREpA
namespace Go.Proofs.Ytokcodeeaneeaaa
open Go.RowKit
set_option linter.unusedVariables false
set_option linter.unusedSimpArgs false
set_option linter.unusedSectionVars false

section
variable (B rp vb rq stb g : Nat) (mv : Value) (s : BS) (f : Ed) (sl : Int) (st : List Int) (scn : Bool) (q : Pn) (w : World) (h : REpM B w rp vb rq stb mv s f sl st scn) (hq : Blk w g 120 (rpnCells rq q)) (ht : 0 ≤ q.t ∧ q.t < 16) (hlen : s.lg.length < 1000000) (hB : B ≤ w.heap.size)
include h hq ht hlen hB
set_option maxRecDepth 100000 in
set_option maxHeartbeats 1000000 in
theorem rpn_step9 (hph : q.ph = 9) : Calls Try.prog 24 #[.pointer (some ⟨g, 0, none⟩)] w (RRes B rp vb rq stb g 120 mv f sl (s.load q.t f.ep) st scn (rpnCells rq { q with seen := lk s.vs f.ep, ph := 10 }) w (.tuple #[.int .u8 q.ph, .bool false])) := by
  have n_rq_g := h.fd.ne hq (by decide)
  have n_stb_g := h.sb.ne hq (by decide)
  have n_g_rq := Ne.symm n_rq_g
  have n_g_stb := Ne.symm n_stb_g
  have n_rq_stb := h.fd.ne h.sb (by decide)
  have n_stb_rq := Ne.symm n_rq_stb
  have a0 : w.cell? ⟨g, 0, none⟩ = some (.pointer (some ⟨rq, 0, none⟩)) := hq.cell 0
  have a1 : w.cell? ⟨g, 1, none⟩ = some (.int .i64 q.t) := hq.cell 1
  have a3 : w.cell? ⟨g, 3, none⟩ = some (.int .u64 q.seen) := hq.cell 3
  have a4 : w.cell? ⟨g, 4, none⟩ = some (.int .u8 q.ph) := hq.cell 4
  have b0 : w.cell? ⟨rq, 0, none⟩ = some (.pointer (some ⟨rp, 0, none⟩)) := h.fd.cell 0
  have b1 : w.cell? ⟨rq, 1, none⟩ = some (.int .i64 f.ep) := h.fd.cell 1
  have b9 : (q.ph == 9) = true := by rw [beq_iff_eq]; exact hph
  have hn := h.r.hn
  have hke := h.ok.e
  have H := hid h
  have HQ := hid hq
  clear h hq hph
  go_enter Try.func24, Try.ntmps24
  go_wp2_with fail
  refine Mix.wp_region_mix (fun _ => True) (fun i => ([1, 0, 0, 0, 0, 0, 0, 0, 0, 0, 0, 0, 0, 0, 0, 0, 0, 0, 0, 2, 0, 0, 1, 0, 0, 2] : List Nat).getD i 0) [0, 1, 2, 3, 4, 5, 6, 7, 8, 9, 10, 11, 12, 13, 14, 15, 16, 17, 18, 19, 20, 21, 22, 23, 24, 25] (by kernel_rfl) (by kernel_rfl) ?_
  repeat (first | (refine Mix.mix_q (by simp only [List.getElem?_toArray, List.getElem?_cons_zero, List.getElem?_cons_succ]; exact rfl) rfl ?_; go_big_quiet_step (fail); refine wpQuiet_nil ?_) | (refine Mix.mix_p (by simp only [List.getElem?_toArray, List.getElem?_cons_zero, List.getElem?_cons_succ]; exact rfl) rfl rfl ?_; go_big_quiet_step (fail); refine wpQuiet_nil ?_))
  refine Mix.mix_e (by simp only [List.getElem?_toArray, List.getElem?_cons_zero, List.getElem?_cons_succ]; exact rfl) rfl fun W hW => ?_
  obtain ⟨n1, rfl⟩ := hW
  go_wp2_with fail
  refine (rload_ok B rp vb mv s q.t (f.ep : Nat) _ (rbank_drew H.out.r n1) hlen hB ⟨ht.1, ht.2, by omega, by omega⟩).mono ?_
  rintro e w1 ⟨rfl, hs1⟩
  obtain ⟨mv', hb1, hc1, hf1, hfd, hsb, hqd⟩ := rafter H.out HQ.out hs1
  clear a0 a1 a3 a4 b0 b1 hs1
  have a3 : w1.cell? ⟨g, 3, none⟩ = some (.int .u64 q.seen) := hqd.cell 3
  have a4 : w1.cell? ⟨g, 4, none⟩ = some (.int .u8 q.ph) := hqd.cell 4
  have fa3 := hqd.free 3
  have fa4 := hqd.free 4
  have Hb1 := hid hb1
  have Hc1 := hid hc1
  have Hf1 := hid hf1
  have Hfd := hid hfd
  have Hsb := hid hsb
  have Hqd := hid hqd
  clear hb1 hc1 hf1 hfd hsb hqd
  rw [Int.toNat_natCast]
  go_wp2_with fail
  repeat (first | (refine Mix.mix_q (by simp only [List.getElem?_toArray, List.getElem?_cons_zero, List.getElem?_cons_succ]; exact rfl) rfl ?_; go_big_quiet_step (fail); refine wpQuiet_nil ?_) | (refine Mix.mix_p (by simp only [List.getElem?_toArray, List.getElem?_cons_zero, List.getElem?_cons_succ]; exact rfl) rfl rfl ?_; go_big_quiet_step (fail); refine wpQuiet_nil ?_))
  refine Mix.mix_e (by simp only [List.getElem?_toArray, List.getElem?_cons_zero, List.getElem?_cons_succ]; exact rfl) rfl fun W2 hW2 => ?_
  obtain ⟨n2, rfl⟩ := hW2
  go_wp2_with fail
  intro n3
  go_wp2_with fail
  go_quiet (fail)
  go_wp2_with fail
  go_ret2
  exact rres_close H.out Hb1.out Hc1.out Hf1.out Hfd.out Hsb.out Hqd.out rfl rfl ((((((Ch.refl (fun b => b = rq ∨ b = stb ∨ b = g) w1).drewN _).set (fun _ => .inr (.inr rfl)) _).drewN _).set (fun _ => .inr (.inr rfl)) _).drewN _) (((((Hfd.out.drewN _).far n_rq_g _).drewN _).far n_rq_g _).drewN _) (((((Hsb.out.drewN _).far n_stb_g _).drewN _).far n_stb_g _).drewN _) (((((Hqd.out.drewN _).put 3 _).drewN _).put 4 _).drewN _)
set_option maxRecDepth 100000 in
set_option maxHeartbeats 1000000 in
theorem rpn_step10 (hph : q.ph = 10) (hs : q.slot < f.n) : Calls Try.prog 24 #[.pointer (some ⟨g, 0, none⟩)] w (RRes B rp vb rq stb g 120 mv f sl (s.store q.t (f.slot q.slot : Nat) (w64 (q.seen + 1))) (st.set q.slot 2) scn (rpnCells rq { q with ph := 0 }) w (.tuple #[.int .u8 q.ph, .bool true])) := by
  have n_rq_g := h.fd.ne hq (by decide)
  have n_stb_g := h.sb.ne hq (by decide)
  have n_g_rq := Ne.symm n_rq_g
  have n_g_stb := Ne.symm n_stb_g
  have n_rq_stb := h.fd.ne h.sb (by decide)
  have n_stb_rq := Ne.symm n_rq_stb
  have a0 : w.cell? ⟨g, 0, none⟩ = some (.pointer (some ⟨rq, 0, none⟩)) := hq.cell 0
  have a1 : w.cell? ⟨g, 1, none⟩ = some (.int .i64 q.t) := hq.cell 1
  have a2 : w.cell? ⟨g, 2, none⟩ = some (.int .i64 q.slot) := hq.cell 2
  have a3 : w.cell? ⟨g, 3, none⟩ = some (.int .u64 q.seen) := hq.cell 3
  have a4 : w.cell? ⟨g, 4, none⟩ = some (.int .u8 q.ph) := hq.cell 4
  have b0 : w.cell? ⟨rq, 0, none⟩ = some (.pointer (some ⟨rp, 0, none⟩)) := h.fd.cell 0
  have b2 : w.cell? ⟨rq, 2, none⟩ = some (.int .i64 sl) := h.fd.cell 2
  have b9 : (q.ph == 9) = false := by rw [beq_eq_false_iff_ne, hph]; decide
  have b10 : (q.ph == 10) = true := by rw [beq_iff_eq]; exact hph
  have hn := h.r.hn
  have hls := h.ls
  have hks : q.slot < st.length := by omega
  have dk : decide (q.slot < f.n) = true := decide_eq_true hs
  obtain ⟨hk1, hk2⟩ := slot_lt h.ok hs
  have hsl : sl = f.sl := by
    rcases h.sl with e | e
    · omega
    · exact e
  have hwr : IntKind.i64.wrap (sl + (q.slot : Int)) = (f.slot q.slot : Int) := by rw [hsl, hk1]; exact IntWalk.i64_in _ (by omega)
  have hw0 : IntKind.u64.wrap (q.seen + 1) = w64 (q.seen + 1) := w64_wrap _
  have hbd0 := w64_bd (q.seen + 1)
  obtain ⟨t1, ht1⟩ : ∃ t1, t1 = w64 (q.seen + 1) := ⟨_, rfl⟩
  rw [← ht1] at hw0 hbd0 ⊢
  obtain ⟨m, hm⟩ : ∃ m, m = f.slot q.slot := ⟨_, rfl⟩
  rw [← hm] at hk2 hwr ⊢
  have Hbd := hid hbd0
  have H := hid h
  have HQ := hid hq
  clear h hq hph ht1 hm hk1 hsl hbd0 hls
  go_enter Try.func24, Try.ntmps24
  go_wp2_with fail
  refine Mix.wp_region_mix (fun _ => True) (fun i => ([0, 0, 0, 0, 0, 0, 0, 0, 0, 0, 0, 0, 0, 0, 0, 0, 0, 0, 0, 0, 0, 0, 0, 0, 0, 0, 0, 0, 2] : List Nat).getD i 0) [0, 1, 2, 3, 4, 5, 6, 7, 8, 9, 10, 11, 12, 13, 14, 15, 16, 17, 18, 19, 20, 21, 22, 23, 24, 25, 26, 27, 28] (by kernel_rfl) (by kernel_rfl) ?_
  repeat (first | (refine Mix.mix_q (by simp only [List.getElem?_toArray, List.getElem?_cons_zero, List.getElem?_cons_succ]; exact rfl) rfl ?_; go_big_quiet_step (fail); refine wpQuiet_nil ?_) | (refine Mix.mix_p (by simp only [List.getElem?_toArray, List.getElem?_cons_zero, List.getElem?_cons_succ]; exact rfl) rfl rfl ?_; go_big_quiet_step (fail); refine wpQuiet_nil ?_))
  refine Mix.mix_e (by simp only [List.getElem?_toArray, List.getElem?_cons_zero, List.getElem?_cons_succ]; exact rfl) rfl fun W hW => ?_
  obtain ⟨n1, rfl⟩ := hW
  go_wp2_with fail
  refine (rstore_ok B rp vb mv s q.t (m : Nat) t1 _ (rbank_drew H.out.r n1) hlen hB ⟨ht.1, ht.2, by omega, by omega⟩).mono ?_
  rintro e w1 ⟨rfl, hs1⟩
  obtain ⟨mv', hb1, hc1, hf1, hfd, hsb, hqd⟩ := rafter H.out HQ.out hs1
  clear a0 a1 a2 a3 a4 b0 b2 hwr hw0 hs1
  have a0 : w1.cell? ⟨g, 0, none⟩ = some (.pointer (some ⟨rq, 0, none⟩)) := hqd.cell 0
  have a2 : w1.cell? ⟨g, 2, none⟩ = some (.int .i64 q.slot) := hqd.cell 2
  have a4 : w1.cell? ⟨g, 4, none⟩ = some (.int .u8 q.ph) := hqd.cell 4
  have b4 : w1.cell? ⟨rq, 4, none⟩ = some (.slice (some ⟨stb, 0, none⟩) f.n f.n) := hfd.cell 4
  have fa4 := hqd.free 4
  have ck : w1.cell? ⟨stb, q.slot, none⟩ = some (.int .i64 (lk st q.slot)) := (hsb.cell q.slot).trans (intsA_at hks)
  have fk := hsb.free q.slot
  have Hb1 := hid hb1
  have Hc1 := hid hc1
  have Hf1 := hid hf1
  have Hfd := hid hfd
  have Hsb := hid hsb
  have Hqd := hid hqd
  clear hb1 hc1 hf1 hfd hsb hqd
  go_wp2_with fail
  intro n2
  go_wp2_with fail
  refine Mix.wp_region_mix (fun _ => True) (fun i => ([0, 0, 0, 0, 0, 0, 0, 0, 0, 0, 0, 1, 0, 2, 0, 0, 2] : List Nat).getD i 0) [0, 1, 2, 3, 4, 5, 6, 7, 8, 9, 10, 11, 12, 13, 14, 15, 16] (by kernel_rfl) (by kernel_rfl) ?_
  repeat (first | (refine Mix.mix_q (by simp only [List.getElem?_toArray, List.getElem?_cons_zero, List.getElem?_cons_succ]; exact rfl) rfl ?_; go_big_quiet_step (fail); refine wpQuiet_nil ?_) | (refine Mix.mix_p (by simp only [List.getElem?_toArray, List.getElem?_cons_zero, List.getElem?_cons_succ]; exact rfl) rfl rfl ?_; go_big_quiet_step (fail); refine wpQuiet_nil ?_))
  refine Mix.mix_e (by simp only [List.getElem?_toArray, List.getElem?_cons_zero, List.getElem?_cons_succ]; exact rfl) rfl fun W2 hW2 => ?_
  obtain ⟨n3, rfl⟩ := hW2
  go_wp2_with fail
  repeat (first | (refine Mix.mix_q (by simp only [List.getElem?_toArray, List.getElem?_cons_zero, List.getElem?_cons_succ]; exact rfl) rfl ?_; go_big_quiet_step (fail); refine wpQuiet_nil ?_) | (refine Mix.mix_p (by simp only [List.getElem?_toArray, List.getElem?_cons_zero, List.getElem?_cons_succ]; exact rfl) rfl rfl ?_; go_big_quiet_step (fail); refine wpQuiet_nil ?_))
  refine Mix.mix_e (by simp only [List.getElem?_toArray, List.getElem?_cons_zero, List.getElem?_cons_succ]; exact rfl) rfl fun W3 hW3 => ?_
  obtain ⟨n4, rfl⟩ := hW3
  go_wp2_with fail
  intro n5
  go_wp2_with fail
  go_quiet (fail)
  go_wp2_with fail
  go_ret2
  exact rres_close H.out Hb1.out Hc1.out Hf1.out Hfd.out Hsb.out Hqd.out (List.length_set ..) (List.length_set ..) (((((((Ch.refl (fun b => b = rq ∨ b = stb ∨ b = g) w1).drewN _).set (fun _ => .inr (.inl rfl)) _).drewN _).set (fun _ => .inr (.inr rfl)) _).drewN _).drewN _) ((((((Hfd.out.drewN _).far n_rq_stb _).drewN _).far n_rq_g _).drewN _).drewN _) (by rw [← intsA_set]; exact ((((((Hsb.out.drewN _).put q.slot _).drewN _).far n_stb_g _).drewN _).drewN _)) ((((((Hqd.out.drewN _).far n_g_stb _).drewN _).put 4 _).drewN _).drewN _)
set_option maxHeartbeats 400000 in
theorem rpn_step0 (hph : q.ph = 0) : Calls Try.prog 24 #[.pointer (some ⟨g, 0, none⟩)] w (RRes B rp vb rq stb g 120 mv f sl s st scn (rpnCells rq q) w (.tuple #[.int .u8 q.ph, .bool true])) := by
  have a4 : w.cell? ⟨g, 4, none⟩ = some (.int .u8 q.ph) := hq.cell 4
  have b9 : (q.ph == 9) = false := by rw [beq_eq_false_iff_ne, hph]; decide
  have b10 : (q.ph == 10) = false := by rw [beq_eq_false_iff_ne, hph]; decide
  have b0 : (q.ph == 0) = true := by rw [beq_iff_eq]; exact hph
  have H := hid h
  have HQ := hid hq
  clear h hq hph
  go_enter Try.func24, Try.ntmps24
  go_wp2_with fail
  go_quiet (fail)
  go_wp2_with fail
  go_ret2
  exact rres_close H.out H.out.r (Ch.refl _ _) (.inl rfl) H.out.fd H.out.sb HQ.out rfl rfl ((Ch.refl (fun b => b = rq ∨ b = stb ∨ b = g) w).drewN _) (H.out.fd.drewN _) (H.out.sb.drewN _) (HQ.out.drewN _)
/-- A step of a pin. -/
theorem rpn_step (hs : q.slot < f.n) (hph : q.ph = 0 ∨ q.ph = 9 ∨ q.ph = 10) : Calls Try.prog 24 #[.pointer (some ⟨g, 0, none⟩)] w (RRes B rp vb rq stb g 120 mv f sl (pnstep s f q).1 (if q.ph = 10 then st.set q.slot 2 else st) scn (rpnCells rq (pnstep s f q).2) w (.tuple #[.int .u8 q.ph, .bool ((pnstep s f q).2.ph == 0)])) := by
  rcases hph with e | e | e
  · have : pnstep s f q = (s, q) := by unfold pnstep; rw [if_neg (by rw [e]; decide), if_neg (by rw [e]; decide)]
    rw [this, if_neg (by rw [e]; decide)]
    have := rpn_step0 B rp vb rq stb g mv s f sl st scn q w h hq ht hlen hB e
    rw [show (q.ph == 0) = true by rw [e]; rfl]
    exact this
  · have : pnstep s f q = (s.load q.t f.ep, { q with seen := lk s.vs f.ep, ph := 10 }) := by unfold pnstep; rw [if_pos e]
    rw [this, if_neg (by rw [e]; decide)]
    exact rpn_step9 B rp vb rq stb g mv s f sl st scn q w h hq ht hlen hB e
  · have : pnstep s f q = (s.store q.t (f.slot q.slot : Nat) (w64 (q.seen + 1)), { q with ph := 0 }) := by unfold pnstep; rw [if_neg (by rw [e]; decide), if_pos e]
    rw [this, if_pos e]
    exact rpn_step10 B rp vb rq stb g mv s f sl st scn q w h hq ht hlen hB e hs
end

section
variable (B rp vb rq stb g : Nat) (mv : Value) (s : BS) (f : Ed) (sl : Int) (st : List Int) (scn : Bool) (q : Sn) (a : Int) (w : World) (h : REpM B w rp vb rq stb mv s f sl st scn) (hq : Blk w g 126 (rsnCells rq q a)) (ht : 0 ≤ q.t ∧ q.t < 16) (hlen : s.lg.length < 1000000) (hB : B ≤ w.heap.size)
include h hq ht hlen hB
set_option maxRecDepth 100000 in
set_option maxHeartbeats 1000000 in
theorem rsn34za (ha : a = q.at') (hph : q.ph = 34) (hs : q.at' < f.n) (h0 : lk s.vs (f.slot q.at') = 0) (hb : q.at' + 1 < f.n) : Calls Try.prog 32 #[.pointer (some ⟨g, 0, none⟩)] w (RRes B rp vb rq stb g 126 mv f sl (s.load q.t (f.slot q.at' : Nat)) st scn (rsnCells rq { q with at' := q.at' + 1 } ((q.at' + 1 : Nat) : Int)) w (.tuple #[.int .u8 q.ph, .bool false])) := by
  subst ha
  have n_rq_g := h.fd.ne hq (by decide)
  have n_stb_g := h.sb.ne hq (by decide)
  have n_g_rq := Ne.symm n_rq_g
  have n_g_stb := Ne.symm n_stb_g
  have n_rq_stb := h.fd.ne h.sb (by decide)
  have n_stb_rq := Ne.symm n_rq_stb
  have a0 : w.cell? ⟨g, 0, none⟩ = some (.pointer (some ⟨rq, 0, none⟩)) := hq.cell 0
  have a1 : w.cell? ⟨g, 1, none⟩ = some (.int .i64 q.t) := hq.cell 1
  have a2 : w.cell? ⟨g, 2, none⟩ = some ((.int .i64 q.at')) := hq.cell 2
  have a3 : w.cell? ⟨g, 3, none⟩ = some (.int .u8 q.ph) := hq.cell 3
  have b0 : w.cell? ⟨rq, 0, none⟩ = some (.pointer (some ⟨rp, 0, none⟩)) := h.fd.cell 0
  have b1 : w.cell? ⟨rq, 1, none⟩ = some (.int .i64 f.ep) := h.fd.cell 1
  have b2 : w.cell? ⟨rq, 2, none⟩ = some (.int .i64 sl) := h.fd.cell 2
  have r0 : w.cell? ⟨rp, 0, none⟩ = some (.slice (some ⟨vb, 0, none⟩) s.vs.length s.vs.length) := h.r.hp.cell 0
  have he := h.ok.e
  have de : decide (f.ep < s.vs.length) = true := decide_eq_true he
  have ve : w.cell? ⟨vb, f.ep, none⟩ = some (.int .u64 (lk s.vs f.ep)) := (h.r.hc.cell f.ep).trans (u64s_getD s.vs f.ep he)
  have b34 : (q.ph == 34) = true := by rw [beq_iff_eq]; exact hph
  have bz : (q.ph == 0) = false := by rw [beq_eq_false_iff_ne, hph]; decide
  have hn := h.r.hn
  have hf64 := h.ok.n
  obtain ⟨hk1, hk2⟩ := slot_lt h.ok hs
  have hsl : sl = f.sl := by
    rcases h.sl with e | e
    · omega
    · exact e
  have hwr : IntKind.i64.wrap (sl + (q.at' : Int)) = (f.slot q.at' : Int) := by rw [hsl, hk1]; exact IntWalk.i64_in _ (by omega)
  have hmx : IntKind.i64.wrap ((q.at' : Int) + 1) = ((q.at' + 1 : Nat) : Int) := by rw [IntWalk.i64_in _ (by omega)]; rfl
  obtain ⟨k, hk⟩ : ∃ k, k = f.slot q.at' := ⟨_, rfl⟩
  rw [← hk] at hk2 hwr ⊢
  obtain ⟨v, hv⟩ : ∃ v, v = lk s.vs k := ⟨_, rfl⟩
  obtain ⟨t0, ht0⟩ : ∃ t0, t0 = lk s.vs f.ep := ⟨_, rfl⟩
  rw [← ht0] at ve
  have hv0 : v = 0 := by rw [hv, hk]; exact h0
  have bv : (v != 0) = false := by rw [hv0]; rfl
  clear h0 hv0
  have dl : (((q.at' + 1 : Nat) : Int) == (f.n : Int)) = false := by rw [beq_eq_false_iff_ne]; omega
  have dl2 : ((q.at' : Int) + 1 == (f.n : Int)) = false := by rw [beq_eq_false_iff_ne]; omega
  have HV := hid hv
  have HT0 := hid ht0
  have H := hid h
  have HQ := hid hq
  clear h hq hph hk hk1 hsl hv ht0
  go_enter Try.func32, Try.ntmps32
  go_wp2_with fail
  go_quiet (fail)
  go_wp2_with fail
  go_quiet (fail)
  go_wp2_with fail
  refine Mix.wp_region_mix (fun _ => True) (fun i => ([0, 0, 0, 0, 0, 0, 0, 0, 0, 0, 0, 0, 0, 0, 0, 0, 0, 2, 0, 0, 0, 0, 0] : List Nat).getD i 0) [0, 1, 2, 3, 4, 5, 6, 7, 8, 9, 10, 11, 12, 13, 14, 15, 16, 17, 18, 19, 20, 21, 22] (by kernel_rfl) (by kernel_rfl) ?_
  repeat (first | (refine Mix.mix_q (by simp only [List.getElem?_toArray, List.getElem?_cons_zero, List.getElem?_cons_succ]; exact rfl) rfl ?_; go_big_quiet_step (fail); refine wpQuiet_nil ?_) | (refine Mix.mix_p (by simp only [List.getElem?_toArray, List.getElem?_cons_zero, List.getElem?_cons_succ]; exact rfl) rfl rfl ?_; go_big_quiet_step (fail); refine wpQuiet_nil ?_))
  refine Mix.mix_e (by simp only [List.getElem?_toArray, List.getElem?_cons_zero, List.getElem?_cons_succ]; exact rfl) rfl fun W hW => ?_
  obtain ⟨n1, rfl⟩ := hW
  go_wp2_with fail
  refine calls_world fun WW hWW => ?_
  obtain ⟨nn, hnn⟩ : ∃ nn, WW = w.drewN nn := by
    rw [hWW]
    first | exact ⟨_, rfl⟩ | exact ⟨_, (World.drewN_drewN _ _ _)⟩ | exact ⟨_, by rw [World.drewN_drewN]⟩ | exact ⟨_, by rw [World.drewN_drewN, World.drewN_drewN]⟩
  rw [hnn]
  clear hWW hnn
  refine (rload_ok B rp vb mv s q.t (k : Nat) _ (rbank_drew H.out.r nn) hlen hB ⟨ht.1, ht.2, by omega, by omega⟩).mono ?_
  rintro e w1 ⟨rfl, hs1⟩
  obtain ⟨mv', hb1, hc1, hf1, hfd, hsb, hqd⟩ := rafter H.out HQ.out hs1
  clear a0 a1 a2 a3 b0 b1 b2 r0 ve hwr hs1
  have a0 : w1.cell? ⟨g, 0, none⟩ = some (.pointer (some ⟨rq, 0, none⟩)) := hqd.cell 0
  have a2 : w1.cell? ⟨g, 2, none⟩ = some ((.int .i64 q.at')) := hqd.cell 2
  have a3 : w1.cell? ⟨g, 3, none⟩ = some (.int .u8 q.ph) := hqd.cell 3
  have b3 : w1.cell? ⟨rq, 3, none⟩ = some (.int .i64 f.n) := hfd.cell 3
  have b5 : w1.cell? ⟨rq, 5, none⟩ = some (.bool scn) := hfd.cell 5
  have fa2 := hqd.free 2
  have fa3 := hqd.free 3
  have fb5 := hfd.free 5
  have Hb1 := hid hb1
  have Hc1 := hid hc1
  have Hf1 := hid hf1
  have Hfd := hid hfd
  have Hsb := hid hsb
  have Hqd := hid hqd
  clear hb1 hc1 hf1 hfd hsb hqd
  rw [Int.toNat_natCast, ← HV.out]
  go_wp2_with fail
  repeat (first | (refine Mix.mix_q (by simp only [List.getElem?_toArray, List.getElem?_cons_zero, List.getElem?_cons_succ]; exact rfl) rfl ?_; go_big_quiet_step (fail); refine wpQuiet_nil ?_) | (refine Mix.mix_p (by simp only [List.getElem?_toArray, List.getElem?_cons_zero, List.getElem?_cons_succ]; exact rfl) rfl rfl ?_; go_big_quiet_step (fail); refine wpQuiet_nil ?_))
  intro n2
  go_wp2_with fail
  go_quiet (fail)
  go_wp2_with fail
  go_quiet (fail)
  go_wp2_with fail
  go_ret2
  exact rres_close H.out Hb1.out Hc1.out Hf1.out Hfd.out Hsb.out Hqd.out rfl rfl (((((Ch.refl (fun b => b = rq ∨ b = stb ∨ b = g) w1).drewN _).set (fun _ => .inr (.inr rfl)) _).drewN _).drewN _) ((((Hfd.out.drewN _).far n_rq_g _).drewN _).drewN _) ((((Hsb.out.drewN _).far n_stb_g _).drewN _).drewN _) ((((Hqd.out.drewN _).put 2 _).drewN _).drewN _)
set_option maxRecDepth 100000 in
set_option maxHeartbeats 1000000 in
theorem rsn34zb (ha : a = q.at') (hph : q.ph = 34) (hs : q.at' < f.n) (h0 : lk s.vs (f.slot q.at') = 0) (hb : ¬ q.at' + 1 < f.n) : Calls Try.prog 32 #[.pointer (some ⟨g, 0, none⟩)] w (RRes B rp vb rq stb g 126 mv f sl (s.load q.t (f.slot q.at' : Nat)) st scn (rsnCells rq { q with at' := q.at' + 1, ph := 35 } ((q.at' + 1 : Nat) : Int)) w (.tuple #[.int .u8 q.ph, .bool false])) := by
  subst ha
  have n_rq_g := h.fd.ne hq (by decide)
  have n_stb_g := h.sb.ne hq (by decide)
  have n_g_rq := Ne.symm n_rq_g
  have n_g_stb := Ne.symm n_stb_g
  have n_rq_stb := h.fd.ne h.sb (by decide)
  have n_stb_rq := Ne.symm n_rq_stb
  have a0 : w.cell? ⟨g, 0, none⟩ = some (.pointer (some ⟨rq, 0, none⟩)) := hq.cell 0
  have a1 : w.cell? ⟨g, 1, none⟩ = some (.int .i64 q.t) := hq.cell 1
  have a2 : w.cell? ⟨g, 2, none⟩ = some ((.int .i64 q.at')) := hq.cell 2
  have a3 : w.cell? ⟨g, 3, none⟩ = some (.int .u8 q.ph) := hq.cell 3
  have b0 : w.cell? ⟨rq, 0, none⟩ = some (.pointer (some ⟨rp, 0, none⟩)) := h.fd.cell 0
  have b1 : w.cell? ⟨rq, 1, none⟩ = some (.int .i64 f.ep) := h.fd.cell 1
  have b2 : w.cell? ⟨rq, 2, none⟩ = some (.int .i64 sl) := h.fd.cell 2
  have r0 : w.cell? ⟨rp, 0, none⟩ = some (.slice (some ⟨vb, 0, none⟩) s.vs.length s.vs.length) := h.r.hp.cell 0
  have he := h.ok.e
  have de : decide (f.ep < s.vs.length) = true := decide_eq_true he
  have ve : w.cell? ⟨vb, f.ep, none⟩ = some (.int .u64 (lk s.vs f.ep)) := (h.r.hc.cell f.ep).trans (u64s_getD s.vs f.ep he)
  have b34 : (q.ph == 34) = true := by rw [beq_iff_eq]; exact hph
  have bz : (q.ph == 0) = false := by rw [beq_eq_false_iff_ne, hph]; decide
  have hn := h.r.hn
  have hf64 := h.ok.n
  obtain ⟨hk1, hk2⟩ := slot_lt h.ok hs
  have hsl : sl = f.sl := by
    rcases h.sl with e | e
    · omega
    · exact e
  have hwr : IntKind.i64.wrap (sl + (q.at' : Int)) = (f.slot q.at' : Int) := by rw [hsl, hk1]; exact IntWalk.i64_in _ (by omega)
  have hmx : IntKind.i64.wrap ((q.at' : Int) + 1) = ((q.at' + 1 : Nat) : Int) := by rw [IntWalk.i64_in _ (by omega)]; rfl
  obtain ⟨k, hk⟩ : ∃ k, k = f.slot q.at' := ⟨_, rfl⟩
  rw [← hk] at hk2 hwr ⊢
  obtain ⟨v, hv⟩ : ∃ v, v = lk s.vs k := ⟨_, rfl⟩
  obtain ⟨t0, ht0⟩ : ∃ t0, t0 = lk s.vs f.ep := ⟨_, rfl⟩
  rw [← ht0] at ve
  have hv0 : v = 0 := by rw [hv, hk]; exact h0
  have bv : (v != 0) = false := by rw [hv0]; rfl
  clear h0 hv0
  have dl : (((q.at' + 1 : Nat) : Int) == (f.n : Int)) = true := by rw [beq_iff_eq]; omega
  have dl2 : ((q.at' : Int) + 1 == (f.n : Int)) = true := by rw [beq_iff_eq]; omega
  have HV := hid hv
  have HT0 := hid ht0
  have H := hid h
  have HQ := hid hq
  clear h hq hph hk hk1 hsl hv ht0
  go_enter Try.func32, Try.ntmps32
  go_wp2_with fail
  go_quiet (fail)
  go_wp2_with fail
  go_quiet (fail)
  go_wp2_with fail
  refine Mix.wp_region_mix (fun _ => True) (fun i => ([0, 0, 0, 0, 0, 0, 0, 0, 0, 0, 0, 0, 0, 0, 0, 0, 0, 2, 0, 0, 0, 0, 0] : List Nat).getD i 0) [0, 1, 2, 3, 4, 5, 6, 7, 8, 9, 10, 11, 12, 13, 14, 15, 16, 17, 18, 19, 20, 21, 22] (by kernel_rfl) (by kernel_rfl) ?_
  repeat (first | (refine Mix.mix_q (by simp only [List.getElem?_toArray, List.getElem?_cons_zero, List.getElem?_cons_succ]; exact rfl) rfl ?_; go_big_quiet_step (fail); refine wpQuiet_nil ?_) | (refine Mix.mix_p (by simp only [List.getElem?_toArray, List.getElem?_cons_zero, List.getElem?_cons_succ]; exact rfl) rfl rfl ?_; go_big_quiet_step (fail); refine wpQuiet_nil ?_))
  refine Mix.mix_e (by simp only [List.getElem?_toArray, List.getElem?_cons_zero, List.getElem?_cons_succ]; exact rfl) rfl fun W hW => ?_
  obtain ⟨n1, rfl⟩ := hW
  go_wp2_with fail
  refine calls_world fun WW hWW => ?_
  obtain ⟨nn, hnn⟩ : ∃ nn, WW = w.drewN nn := by
    rw [hWW]
    first | exact ⟨_, rfl⟩ | exact ⟨_, (World.drewN_drewN _ _ _)⟩ | exact ⟨_, by rw [World.drewN_drewN]⟩ | exact ⟨_, by rw [World.drewN_drewN, World.drewN_drewN]⟩
  rw [hnn]
  clear hWW hnn
  refine (rload_ok B rp vb mv s q.t (k : Nat) _ (rbank_drew H.out.r nn) hlen hB ⟨ht.1, ht.2, by omega, by omega⟩).mono ?_
  rintro e w1 ⟨rfl, hs1⟩
  obtain ⟨mv', hb1, hc1, hf1, hfd, hsb, hqd⟩ := rafter H.out HQ.out hs1
  clear a0 a1 a2 a3 b0 b1 b2 r0 ve hwr hs1
  have a0 : w1.cell? ⟨g, 0, none⟩ = some (.pointer (some ⟨rq, 0, none⟩)) := hqd.cell 0
  have a2 : w1.cell? ⟨g, 2, none⟩ = some ((.int .i64 q.at')) := hqd.cell 2
  have a3 : w1.cell? ⟨g, 3, none⟩ = some (.int .u8 q.ph) := hqd.cell 3
  have b3 : w1.cell? ⟨rq, 3, none⟩ = some (.int .i64 f.n) := hfd.cell 3
  have b5 : w1.cell? ⟨rq, 5, none⟩ = some (.bool scn) := hfd.cell 5
  have fa2 := hqd.free 2
  have fa3 := hqd.free 3
  have fb5 := hfd.free 5
  have Hb1 := hid hb1
  have Hc1 := hid hc1
  have Hf1 := hid hf1
  have Hfd := hid hfd
  have Hsb := hid hsb
  have Hqd := hid hqd
  clear hb1 hc1 hf1 hfd hsb hqd
  rw [Int.toNat_natCast, ← HV.out]
  go_wp2_with fail
  repeat (first | (refine Mix.mix_q (by simp only [List.getElem?_toArray, List.getElem?_cons_zero, List.getElem?_cons_succ]; exact rfl) rfl ?_; go_big_quiet_step (fail); refine wpQuiet_nil ?_) | (refine Mix.mix_p (by simp only [List.getElem?_toArray, List.getElem?_cons_zero, List.getElem?_cons_succ]; exact rfl) rfl rfl ?_; go_big_quiet_step (fail); refine wpQuiet_nil ?_))
  intro n2
  go_wp2_with fail
  go_quiet (fail)
  go_wp2_with fail
  go_quiet (fail)
  go_wp2_with fail
  go_ret2
  exact rres_close H.out Hb1.out Hc1.out Hf1.out Hfd.out Hsb.out Hqd.out rfl rfl ((((((Ch.refl (fun b => b = rq ∨ b = stb ∨ b = g) w1).drewN _).set (fun _ => .inr (.inr rfl)) _).drewN _).set (fun _ => .inr (.inr rfl)) _).drewN _) (((((Hfd.out.drewN _).far n_rq_g _).drewN _).far n_rq_g _).drewN _) (((((Hsb.out.drewN _).far n_stb_g _).drewN _).far n_stb_g _).drewN _) (((((Hqd.out.drewN _).put 2 _).drewN _).put 3 _).drewN _)
set_option maxRecDepth 100000 in
set_option maxHeartbeats 1000000 in
theorem rsn34oa (ha : a = q.at') (hph : q.ph = 34) (hs : q.at' < f.n) (h0 : lk s.vs (f.slot q.at') ≠ 0) (h1 : lk s.vs (f.slot q.at') = w64 (lk s.vs f.ep + 1)) (hb : q.at' + 1 < f.n) : Calls Try.prog 32 #[.pointer (some ⟨g, 0, none⟩)] w (RRes B rp vb rq stb g 126 mv f sl (s.load q.t (f.slot q.at' : Nat)) st scn (rsnCells rq { q with at' := q.at' + 1 } ((q.at' + 1 : Nat) : Int)) w (.tuple #[.int .u8 q.ph, .bool false])) := by
  subst ha
  have n_rq_g := h.fd.ne hq (by decide)
  have n_stb_g := h.sb.ne hq (by decide)
  have n_g_rq := Ne.symm n_rq_g
  have n_g_stb := Ne.symm n_stb_g
  have n_rq_stb := h.fd.ne h.sb (by decide)
  have n_stb_rq := Ne.symm n_rq_stb
  have a0 : w.cell? ⟨g, 0, none⟩ = some (.pointer (some ⟨rq, 0, none⟩)) := hq.cell 0
  have a1 : w.cell? ⟨g, 1, none⟩ = some (.int .i64 q.t) := hq.cell 1
  have a2 : w.cell? ⟨g, 2, none⟩ = some ((.int .i64 q.at')) := hq.cell 2
  have a3 : w.cell? ⟨g, 3, none⟩ = some (.int .u8 q.ph) := hq.cell 3
  have b0 : w.cell? ⟨rq, 0, none⟩ = some (.pointer (some ⟨rp, 0, none⟩)) := h.fd.cell 0
  have b1 : w.cell? ⟨rq, 1, none⟩ = some (.int .i64 f.ep) := h.fd.cell 1
  have b2 : w.cell? ⟨rq, 2, none⟩ = some (.int .i64 sl) := h.fd.cell 2
  have r0 : w.cell? ⟨rp, 0, none⟩ = some (.slice (some ⟨vb, 0, none⟩) s.vs.length s.vs.length) := h.r.hp.cell 0
  have he := h.ok.e
  have de : decide (f.ep < s.vs.length) = true := decide_eq_true he
  have ve : w.cell? ⟨vb, f.ep, none⟩ = some (.int .u64 (lk s.vs f.ep)) := (h.r.hc.cell f.ep).trans (u64s_getD s.vs f.ep he)
  have b34 : (q.ph == 34) = true := by rw [beq_iff_eq]; exact hph
  have bz : (q.ph == 0) = false := by rw [beq_eq_false_iff_ne, hph]; decide
  have hn := h.r.hn
  have hf64 := h.ok.n
  obtain ⟨hk1, hk2⟩ := slot_lt h.ok hs
  have hsl : sl = f.sl := by
    rcases h.sl with e | e
    · omega
    · exact e
  have hwr : IntKind.i64.wrap (sl + (q.at' : Int)) = (f.slot q.at' : Int) := by rw [hsl, hk1]; exact IntWalk.i64_in _ (by omega)
  have hmx : IntKind.i64.wrap ((q.at' : Int) + 1) = ((q.at' + 1 : Nat) : Int) := by rw [IntWalk.i64_in _ (by omega)]; rfl
  obtain ⟨k, hk⟩ : ∃ k, k = f.slot q.at' := ⟨_, rfl⟩
  rw [← hk] at hk2 hwr ⊢
  obtain ⟨v, hv⟩ : ∃ v, v = lk s.vs k := ⟨_, rfl⟩
  obtain ⟨t0, ht0⟩ : ∃ t0, t0 = lk s.vs f.ep := ⟨_, rfl⟩
  rw [← ht0] at ve
  have bv : (v != 0) = true := by rw [bne_iff_ne, hv, hk]; exact h0
  have hw0 : IntKind.u64.wrap (t0 + 1) = w64 (t0 + 1) := w64_wrap _
  obtain ⟨t1, ht1⟩ : ∃ t1, t1 = w64 (t0 + 1) := ⟨_, rfl⟩
  have bt : (v != t1) = false := by rw [bne_eq_false_iff_eq, hv, hk, ht1, ht0]; exact h1
  rw [← ht1] at hw0
  clear h0 h1 ht1
  have dl : (((q.at' + 1 : Nat) : Int) == (f.n : Int)) = false := by rw [beq_eq_false_iff_ne]; omega
  have dl2 : ((q.at' : Int) + 1 == (f.n : Int)) = false := by rw [beq_eq_false_iff_ne]; omega
  have HV := hid hv
  have HT0 := hid ht0
  have H := hid h
  have HQ := hid hq
  clear h hq hph hk hk1 hsl hv ht0
  go_enter Try.func32, Try.ntmps32
  go_wp2_with fail
  go_quiet (fail)
  go_wp2_with fail
  go_quiet (fail)
  go_wp2_with fail
  refine Mix.wp_region_mix (fun _ => True) (fun i => ([0, 0, 0, 0, 0, 0, 0, 0, 0, 0, 0, 0, 0, 0, 0, 0, 0, 2, 0, 0, 0, 0, 0] : List Nat).getD i 0) [0, 1, 2, 3, 4, 5, 6, 7, 8, 9, 10, 11, 12, 13, 14, 15, 16, 17, 18, 19, 20, 21, 22] (by kernel_rfl) (by kernel_rfl) ?_
  repeat (first | (refine Mix.mix_q (by simp only [List.getElem?_toArray, List.getElem?_cons_zero, List.getElem?_cons_succ]; exact rfl) rfl ?_; go_big_quiet_step (fail); refine wpQuiet_nil ?_) | (refine Mix.mix_p (by simp only [List.getElem?_toArray, List.getElem?_cons_zero, List.getElem?_cons_succ]; exact rfl) rfl rfl ?_; go_big_quiet_step (fail); refine wpQuiet_nil ?_))
  refine Mix.mix_e (by simp only [List.getElem?_toArray, List.getElem?_cons_zero, List.getElem?_cons_succ]; exact rfl) rfl fun W hW => ?_
  obtain ⟨n1, rfl⟩ := hW
  go_wp2_with fail
  refine calls_world fun WW hWW => ?_
  obtain ⟨nn, hnn⟩ : ∃ nn, WW = w.drewN nn := by
    rw [hWW]
    first | exact ⟨_, rfl⟩ | exact ⟨_, (World.drewN_drewN _ _ _)⟩ | exact ⟨_, by rw [World.drewN_drewN]⟩ | exact ⟨_, by rw [World.drewN_drewN, World.drewN_drewN]⟩
  rw [hnn]
  clear hWW hnn
  refine (rload_ok B rp vb mv s q.t (k : Nat) _ (rbank_drew H.out.r nn) hlen hB ⟨ht.1, ht.2, by omega, by omega⟩).mono ?_
  rintro e w1 ⟨rfl, hs1⟩
  obtain ⟨mv', hb1, hc1, hf1, hfd, hsb, hqd⟩ := rafter H.out HQ.out hs1
  clear a0 a1 a2 a3 b0 b1 b2 r0 ve hwr hs1
  have a0 : w1.cell? ⟨g, 0, none⟩ = some (.pointer (some ⟨rq, 0, none⟩)) := hqd.cell 0
  have a2 : w1.cell? ⟨g, 2, none⟩ = some ((.int .i64 q.at')) := hqd.cell 2
  have a3 : w1.cell? ⟨g, 3, none⟩ = some (.int .u8 q.ph) := hqd.cell 3
  have b3 : w1.cell? ⟨rq, 3, none⟩ = some (.int .i64 f.n) := hfd.cell 3
  have b5 : w1.cell? ⟨rq, 5, none⟩ = some (.bool scn) := hfd.cell 5
  have fa2 := hqd.free 2
  have fa3 := hqd.free 3
  have fb5 := hfd.free 5
  have Hb1 := hid hb1
  have Hc1 := hid hc1
  have Hf1 := hid hf1
  have Hfd := hid hfd
  have Hsb := hid hsb
  have Hqd := hid hqd
  clear hb1 hc1 hf1 hfd hsb hqd
  rw [Int.toNat_natCast, ← HV.out]
  go_wp2_with fail
  repeat (first | (refine Mix.mix_q (by simp only [List.getElem?_toArray, List.getElem?_cons_zero, List.getElem?_cons_succ]; exact rfl) rfl ?_; go_big_quiet_step (fail); refine wpQuiet_nil ?_) | (refine Mix.mix_p (by simp only [List.getElem?_toArray, List.getElem?_cons_zero, List.getElem?_cons_succ]; exact rfl) rfl rfl ?_; go_big_quiet_step (fail); refine wpQuiet_nil ?_))
  intro n2
  go_wp2_with fail
  go_quiet (fail)
  go_wp2_with fail
  go_quiet (fail)
  go_wp2_with fail
  go_ret2
  exact rres_close H.out Hb1.out Hc1.out Hf1.out Hfd.out Hsb.out Hqd.out rfl rfl (((((Ch.refl (fun b => b = rq ∨ b = stb ∨ b = g) w1).drewN _).set (fun _ => .inr (.inr rfl)) _).drewN _).drewN _) ((((Hfd.out.drewN _).far n_rq_g _).drewN _).drewN _) ((((Hsb.out.drewN _).far n_stb_g _).drewN _).drewN _) ((((Hqd.out.drewN _).put 2 _).drewN _).drewN _)
set_option maxRecDepth 100000 in
set_option maxHeartbeats 1000000 in
theorem rsn34ob (ha : a = q.at') (hph : q.ph = 34) (hs : q.at' < f.n) (h0 : lk s.vs (f.slot q.at') ≠ 0) (h1 : lk s.vs (f.slot q.at') = w64 (lk s.vs f.ep + 1)) (hb : ¬ q.at' + 1 < f.n) : Calls Try.prog 32 #[.pointer (some ⟨g, 0, none⟩)] w (RRes B rp vb rq stb g 126 mv f sl (s.load q.t (f.slot q.at' : Nat)) st scn (rsnCells rq { q with at' := q.at' + 1, ph := 35 } ((q.at' + 1 : Nat) : Int)) w (.tuple #[.int .u8 q.ph, .bool false])) := by
  subst ha
  have n_rq_g := h.fd.ne hq (by decide)
  have n_stb_g := h.sb.ne hq (by decide)
  have n_g_rq := Ne.symm n_rq_g
  have n_g_stb := Ne.symm n_stb_g
  have n_rq_stb := h.fd.ne h.sb (by decide)
  have n_stb_rq := Ne.symm n_rq_stb
  have a0 : w.cell? ⟨g, 0, none⟩ = some (.pointer (some ⟨rq, 0, none⟩)) := hq.cell 0
  have a1 : w.cell? ⟨g, 1, none⟩ = some (.int .i64 q.t) := hq.cell 1
  have a2 : w.cell? ⟨g, 2, none⟩ = some ((.int .i64 q.at')) := hq.cell 2
  have a3 : w.cell? ⟨g, 3, none⟩ = some (.int .u8 q.ph) := hq.cell 3
  have b0 : w.cell? ⟨rq, 0, none⟩ = some (.pointer (some ⟨rp, 0, none⟩)) := h.fd.cell 0
  have b1 : w.cell? ⟨rq, 1, none⟩ = some (.int .i64 f.ep) := h.fd.cell 1
  have b2 : w.cell? ⟨rq, 2, none⟩ = some (.int .i64 sl) := h.fd.cell 2
  have r0 : w.cell? ⟨rp, 0, none⟩ = some (.slice (some ⟨vb, 0, none⟩) s.vs.length s.vs.length) := h.r.hp.cell 0
  have he := h.ok.e
  have de : decide (f.ep < s.vs.length) = true := decide_eq_true he
  have ve : w.cell? ⟨vb, f.ep, none⟩ = some (.int .u64 (lk s.vs f.ep)) := (h.r.hc.cell f.ep).trans (u64s_getD s.vs f.ep he)
  have b34 : (q.ph == 34) = true := by rw [beq_iff_eq]; exact hph
  have bz : (q.ph == 0) = false := by rw [beq_eq_false_iff_ne, hph]; decide
  have hn := h.r.hn
  have hf64 := h.ok.n
  obtain ⟨hk1, hk2⟩ := slot_lt h.ok hs
  have hsl : sl = f.sl := by
    rcases h.sl with e | e
    · omega
    · exact e
  have hwr : IntKind.i64.wrap (sl + (q.at' : Int)) = (f.slot q.at' : Int) := by rw [hsl, hk1]; exact IntWalk.i64_in _ (by omega)
  have hmx : IntKind.i64.wrap ((q.at' : Int) + 1) = ((q.at' + 1 : Nat) : Int) := by rw [IntWalk.i64_in _ (by omega)]; rfl
  obtain ⟨k, hk⟩ : ∃ k, k = f.slot q.at' := ⟨_, rfl⟩
  rw [← hk] at hk2 hwr ⊢
  obtain ⟨v, hv⟩ : ∃ v, v = lk s.vs k := ⟨_, rfl⟩
  obtain ⟨t0, ht0⟩ : ∃ t0, t0 = lk s.vs f.ep := ⟨_, rfl⟩
  rw [← ht0] at ve
  have bv : (v != 0) = true := by rw [bne_iff_ne, hv, hk]; exact h0
  have hw0 : IntKind.u64.wrap (t0 + 1) = w64 (t0 + 1) := w64_wrap _
  obtain ⟨t1, ht1⟩ : ∃ t1, t1 = w64 (t0 + 1) := ⟨_, rfl⟩
  have bt : (v != t1) = false := by rw [bne_eq_false_iff_eq, hv, hk, ht1, ht0]; exact h1
  rw [← ht1] at hw0
  clear h0 h1 ht1
  have dl : (((q.at' + 1 : Nat) : Int) == (f.n : Int)) = true := by rw [beq_iff_eq]; omega
  have dl2 : ((q.at' : Int) + 1 == (f.n : Int)) = true := by rw [beq_iff_eq]; omega
  have HV := hid hv
  have HT0 := hid ht0
  have H := hid h
  have HQ := hid hq
  clear h hq hph hk hk1 hsl hv ht0
  go_enter Try.func32, Try.ntmps32
  go_wp2_with fail
  go_quiet (fail)
  go_wp2_with fail
  go_quiet (fail)
  go_wp2_with fail
  refine Mix.wp_region_mix (fun _ => True) (fun i => ([0, 0, 0, 0, 0, 0, 0, 0, 0, 0, 0, 0, 0, 0, 0, 0, 0, 2, 0, 0, 0, 0, 0] : List Nat).getD i 0) [0, 1, 2, 3, 4, 5, 6, 7, 8, 9, 10, 11, 12, 13, 14, 15, 16, 17, 18, 19, 20, 21, 22] (by kernel_rfl) (by kernel_rfl) ?_
  repeat (first | (refine Mix.mix_q (by simp only [List.getElem?_toArray, List.getElem?_cons_zero, List.getElem?_cons_succ]; exact rfl) rfl ?_; go_big_quiet_step (fail); refine wpQuiet_nil ?_) | (refine Mix.mix_p (by simp only [List.getElem?_toArray, List.getElem?_cons_zero, List.getElem?_cons_succ]; exact rfl) rfl rfl ?_; go_big_quiet_step (fail); refine wpQuiet_nil ?_))
  refine Mix.mix_e (by simp only [List.getElem?_toArray, List.getElem?_cons_zero, List.getElem?_cons_succ]; exact rfl) rfl fun W hW => ?_
  obtain ⟨n1, rfl⟩ := hW
  go_wp2_with fail
  refine calls_world fun WW hWW => ?_
  obtain ⟨nn, hnn⟩ : ∃ nn, WW = w.drewN nn := by
    rw [hWW]
    first | exact ⟨_, rfl⟩ | exact ⟨_, (World.drewN_drewN _ _ _)⟩ | exact ⟨_, by rw [World.drewN_drewN]⟩ | exact ⟨_, by rw [World.drewN_drewN, World.drewN_drewN]⟩
  rw [hnn]
  clear hWW hnn
  refine (rload_ok B rp vb mv s q.t (k : Nat) _ (rbank_drew H.out.r nn) hlen hB ⟨ht.1, ht.2, by omega, by omega⟩).mono ?_
  rintro e w1 ⟨rfl, hs1⟩
  obtain ⟨mv', hb1, hc1, hf1, hfd, hsb, hqd⟩ := rafter H.out HQ.out hs1
  clear a0 a1 a2 a3 b0 b1 b2 r0 ve hwr hs1
  have a0 : w1.cell? ⟨g, 0, none⟩ = some (.pointer (some ⟨rq, 0, none⟩)) := hqd.cell 0
  have a2 : w1.cell? ⟨g, 2, none⟩ = some ((.int .i64 q.at')) := hqd.cell 2
  have a3 : w1.cell? ⟨g, 3, none⟩ = some (.int .u8 q.ph) := hqd.cell 3
  have b3 : w1.cell? ⟨rq, 3, none⟩ = some (.int .i64 f.n) := hfd.cell 3
  have b5 : w1.cell? ⟨rq, 5, none⟩ = some (.bool scn) := hfd.cell 5
  have fa2 := hqd.free 2
  have fa3 := hqd.free 3
  have fb5 := hfd.free 5
  have Hb1 := hid hb1
  have Hc1 := hid hc1
  have Hf1 := hid hf1
  have Hfd := hid hfd
  have Hsb := hid hsb
  have Hqd := hid hqd
  clear hb1 hc1 hf1 hfd hsb hqd
  rw [Int.toNat_natCast, ← HV.out]
  go_wp2_with fail
  repeat (first | (refine Mix.mix_q (by simp only [List.getElem?_toArray, List.getElem?_cons_zero, List.getElem?_cons_succ]; exact rfl) rfl ?_; go_big_quiet_step (fail); refine wpQuiet_nil ?_) | (refine Mix.mix_p (by simp only [List.getElem?_toArray, List.getElem?_cons_zero, List.getElem?_cons_succ]; exact rfl) rfl rfl ?_; go_big_quiet_step (fail); refine wpQuiet_nil ?_))
  intro n2
  go_wp2_with fail
  go_quiet (fail)
  go_wp2_with fail
  go_quiet (fail)
  go_wp2_with fail
  go_ret2
  exact rres_close H.out Hb1.out Hc1.out Hf1.out Hfd.out Hsb.out Hqd.out rfl rfl ((((((Ch.refl (fun b => b = rq ∨ b = stb ∨ b = g) w1).drewN _).set (fun _ => .inr (.inr rfl)) _).drewN _).set (fun _ => .inr (.inr rfl)) _).drewN _) (((((Hfd.out.drewN _).far n_rq_g _).drewN _).far n_rq_g _).drewN _) (((((Hsb.out.drewN _).far n_stb_g _).drewN _).far n_stb_g _).drewN _) (((((Hqd.out.drewN _).put 2 _).drewN _).put 3 _).drewN _)
set_option maxRecDepth 100000 in
set_option maxHeartbeats 1000000 in
theorem rsn34c (ha : a = q.at') (hph : q.ph = 34) (hs : q.at' < f.n) (h0 : lk s.vs (f.slot q.at') ≠ 0) (h1 : lk s.vs (f.slot q.at') ≠ w64 (lk s.vs f.ep + 1)) : Calls Try.prog 32 #[.pointer (some ⟨g, 0, none⟩)] w (RRes B rp vb rq stb g 126 mv f sl (s.load q.t (f.slot q.at' : Nat)) st false (rsnCells rq { q with ph := 0 } ((q.at' + 1 : Nat) : Int)) w (.tuple #[.int .u8 q.ph, .bool true])) := by
  subst ha
  have n_rq_g := h.fd.ne hq (by decide)
  have n_stb_g := h.sb.ne hq (by decide)
  have n_g_rq := Ne.symm n_rq_g
  have n_g_stb := Ne.symm n_stb_g
  have n_rq_stb := h.fd.ne h.sb (by decide)
  have n_stb_rq := Ne.symm n_rq_stb
  have a0 : w.cell? ⟨g, 0, none⟩ = some (.pointer (some ⟨rq, 0, none⟩)) := hq.cell 0
  have a1 : w.cell? ⟨g, 1, none⟩ = some (.int .i64 q.t) := hq.cell 1
  have a2 : w.cell? ⟨g, 2, none⟩ = some ((.int .i64 q.at')) := hq.cell 2
  have a3 : w.cell? ⟨g, 3, none⟩ = some (.int .u8 q.ph) := hq.cell 3
  have b0 : w.cell? ⟨rq, 0, none⟩ = some (.pointer (some ⟨rp, 0, none⟩)) := h.fd.cell 0
  have b1 : w.cell? ⟨rq, 1, none⟩ = some (.int .i64 f.ep) := h.fd.cell 1
  have b2 : w.cell? ⟨rq, 2, none⟩ = some (.int .i64 sl) := h.fd.cell 2
  have r0 : w.cell? ⟨rp, 0, none⟩ = some (.slice (some ⟨vb, 0, none⟩) s.vs.length s.vs.length) := h.r.hp.cell 0
  have he := h.ok.e
  have de : decide (f.ep < s.vs.length) = true := decide_eq_true he
  have ve : w.cell? ⟨vb, f.ep, none⟩ = some (.int .u64 (lk s.vs f.ep)) := (h.r.hc.cell f.ep).trans (u64s_getD s.vs f.ep he)
  have b34 : (q.ph == 34) = true := by rw [beq_iff_eq]; exact hph
  have bz : (q.ph == 0) = false := by rw [beq_eq_false_iff_ne, hph]; decide
  have hn := h.r.hn
  have hf64 := h.ok.n
  obtain ⟨hk1, hk2⟩ := slot_lt h.ok hs
  have hsl : sl = f.sl := by
    rcases h.sl with e | e
    · omega
    · exact e
  have hwr : IntKind.i64.wrap (sl + (q.at' : Int)) = (f.slot q.at' : Int) := by rw [hsl, hk1]; exact IntWalk.i64_in _ (by omega)
  have hmx : IntKind.i64.wrap ((q.at' : Int) + 1) = ((q.at' + 1 : Nat) : Int) := by rw [IntWalk.i64_in _ (by omega)]; rfl
  obtain ⟨k, hk⟩ : ∃ k, k = f.slot q.at' := ⟨_, rfl⟩
  rw [← hk] at hk2 hwr ⊢
  obtain ⟨v, hv⟩ : ∃ v, v = lk s.vs k := ⟨_, rfl⟩
  obtain ⟨t0, ht0⟩ : ∃ t0, t0 = lk s.vs f.ep := ⟨_, rfl⟩
  rw [← ht0] at ve
  have bv : (v != 0) = true := by rw [bne_iff_ne, hv, hk]; exact h0
  have hw0 : IntKind.u64.wrap (t0 + 1) = w64 (t0 + 1) := w64_wrap _
  obtain ⟨t1, ht1⟩ : ∃ t1, t1 = w64 (t0 + 1) := ⟨_, rfl⟩
  have bt : (v != t1) = true := by rw [bne_iff_ne, hv, hk, ht1, ht0]; exact h1
  rw [← ht1] at hw0
  clear h0 h1 ht1
  have HV := hid hv
  have HT0 := hid ht0
  have H := hid h
  have HQ := hid hq
  clear h hq hph hk hk1 hsl hv ht0
  go_enter Try.func32, Try.ntmps32
  go_wp2_with fail
  go_quiet (fail)
  go_wp2_with fail
  go_quiet (fail)
  go_wp2_with fail
  refine Mix.wp_region_mix (fun _ => True) (fun i => ([0, 0, 0, 0, 0, 0, 0, 0, 0, 0, 0, 0, 0, 0, 0, 0, 0, 2, 0, 0, 0, 0, 0] : List Nat).getD i 0) [0, 1, 2, 3, 4, 5, 6, 7, 8, 9, 10, 11, 12, 13, 14, 15, 16, 17, 18, 19, 20, 21, 22] (by kernel_rfl) (by kernel_rfl) ?_
  repeat (first | (refine Mix.mix_q (by simp only [List.getElem?_toArray, List.getElem?_cons_zero, List.getElem?_cons_succ]; exact rfl) rfl ?_; go_big_quiet_step (fail); refine wpQuiet_nil ?_) | (refine Mix.mix_p (by simp only [List.getElem?_toArray, List.getElem?_cons_zero, List.getElem?_cons_succ]; exact rfl) rfl rfl ?_; go_big_quiet_step (fail); refine wpQuiet_nil ?_))
  refine Mix.mix_e (by simp only [List.getElem?_toArray, List.getElem?_cons_zero, List.getElem?_cons_succ]; exact rfl) rfl fun W hW => ?_
  obtain ⟨n1, rfl⟩ := hW
  go_wp2_with fail
  refine calls_world fun WW hWW => ?_
  obtain ⟨nn, hnn⟩ : ∃ nn, WW = w.drewN nn := by
    rw [hWW]
    first | exact ⟨_, rfl⟩ | exact ⟨_, (World.drewN_drewN _ _ _)⟩ | exact ⟨_, by rw [World.drewN_drewN]⟩ | exact ⟨_, by rw [World.drewN_drewN, World.drewN_drewN]⟩
  rw [hnn]
  clear hWW hnn
  refine (rload_ok B rp vb mv s q.t (k : Nat) _ (rbank_drew H.out.r nn) hlen hB ⟨ht.1, ht.2, by omega, by omega⟩).mono ?_
  rintro e w1 ⟨rfl, hs1⟩
  obtain ⟨mv', hb1, hc1, hf1, hfd, hsb, hqd⟩ := rafter H.out HQ.out hs1
  clear a0 a1 a2 a3 b0 b1 b2 r0 ve hwr hs1
  have a0 : w1.cell? ⟨g, 0, none⟩ = some (.pointer (some ⟨rq, 0, none⟩)) := hqd.cell 0
  have a2 : w1.cell? ⟨g, 2, none⟩ = some ((.int .i64 q.at')) := hqd.cell 2
  have a3 : w1.cell? ⟨g, 3, none⟩ = some (.int .u8 q.ph) := hqd.cell 3
  have b3 : w1.cell? ⟨rq, 3, none⟩ = some (.int .i64 f.n) := hfd.cell 3
  have b5 : w1.cell? ⟨rq, 5, none⟩ = some (.bool scn) := hfd.cell 5
  have fa2 := hqd.free 2
  have fa3 := hqd.free 3
  have fb5 := hfd.free 5
  have Hb1 := hid hb1
  have Hc1 := hid hc1
  have Hf1 := hid hf1
  have Hfd := hid hfd
  have Hsb := hid hsb
  have Hqd := hid hqd
  clear hb1 hc1 hf1 hfd hsb hqd
  rw [Int.toNat_natCast, ← HV.out]
  go_wp2_with fail
  repeat (first | (refine Mix.mix_q (by simp only [List.getElem?_toArray, List.getElem?_cons_zero, List.getElem?_cons_succ]; exact rfl) rfl ?_; go_big_quiet_step (fail); refine wpQuiet_nil ?_) | (refine Mix.mix_p (by simp only [List.getElem?_toArray, List.getElem?_cons_zero, List.getElem?_cons_succ]; exact rfl) rfl rfl ?_; go_big_quiet_step (fail); refine wpQuiet_nil ?_))
  intro n2
  go_wp2_with fail
  go_quiet (fail)
  go_wp2_with fail
  go_ret2
  exact rres_close H.out Hb1.out Hc1.out Hf1.out Hfd.out Hsb.out Hqd.out rfl rfl ((((((Ch.refl (fun b => b = rq ∨ b = stb ∨ b = g) w1).drewN _).set (fun _ => .inr (.inr rfl)) _).set (fun _ => .inr (.inr rfl)) _).set (fun _ => .inl rfl) _).drewN _) (((((Hfd.out.drewN _).far n_rq_g _).far n_rq_g _).put 5 _).drewN _) (((((Hsb.out.drewN _).far n_stb_g _).far n_stb_g _).far n_stb_rq _).drewN _) (((((Hqd.out.drewN _).put 2 _).put 3 _).far n_g_rq _).drewN _)
set_option maxRecDepth 100000 in
set_option maxHeartbeats 1000000 in
theorem rsn35 (hph : q.ph = 35) : Calls Try.prog 32 #[.pointer (some ⟨g, 0, none⟩)] w (RRes B rp vb rq stb g 126 mv f sl (s.store q.t f.ep (w64 (lk s.vs f.ep + 1))) st false (rsnCells rq { q with adv := true, ph := 0 } a) w (.tuple #[.int .u8 q.ph, .bool true])) := by
  have n_rq_g := h.fd.ne hq (by decide)
  have n_stb_g := h.sb.ne hq (by decide)
  have n_g_rq := Ne.symm n_rq_g
  have n_g_stb := Ne.symm n_stb_g
  have n_rq_stb := h.fd.ne h.sb (by decide)
  have n_stb_rq := Ne.symm n_rq_stb
  have a0 : w.cell? ⟨g, 0, none⟩ = some (.pointer (some ⟨rq, 0, none⟩)) := hq.cell 0
  have a1 : w.cell? ⟨g, 1, none⟩ = some (.int .i64 q.t) := hq.cell 1
  have a3 : w.cell? ⟨g, 3, none⟩ = some (.int .u8 q.ph) := hq.cell 3
  have b0 : w.cell? ⟨rq, 0, none⟩ = some (.pointer (some ⟨rp, 0, none⟩)) := h.fd.cell 0
  have b1 : w.cell? ⟨rq, 1, none⟩ = some (.int .i64 f.ep) := h.fd.cell 1
  have r0 : w.cell? ⟨rp, 0, none⟩ = some (.slice (some ⟨vb, 0, none⟩) s.vs.length s.vs.length) := h.r.hp.cell 0
  have he := h.ok.e
  have de : decide (f.ep < s.vs.length) = true := decide_eq_true he
  have ve : w.cell? ⟨vb, f.ep, none⟩ = some (.int .u64 (lk s.vs f.ep)) := (h.r.hc.cell f.ep).trans (u64s_getD s.vs f.ep he)
  have b34 : (q.ph == 34) = false := by rw [beq_eq_false_iff_ne, hph]; decide
  have b35 : (q.ph == 35) = true := by rw [beq_iff_eq]; exact hph
  have hn := h.r.hn
  obtain ⟨t0, ht0⟩ : ∃ t0, t0 = lk s.vs f.ep := ⟨_, rfl⟩
  rw [← ht0] at ve ⊢
  have hw0 : IntKind.u64.wrap (t0 + 1) = w64 (t0 + 1) := w64_wrap _
  have hbd0 := w64_bd (t0 + 1)
  obtain ⟨t1, ht1⟩ : ∃ t1, t1 = w64 (t0 + 1) := ⟨_, rfl⟩
  rw [← ht1] at hw0 hbd0 ⊢
  have Hbd := hid hbd0
  have H := hid h
  have HQ := hid hq
  clear h hq hph ht0 ht1 hbd0
  go_enter Try.func32, Try.ntmps32
  go_wp2_with fail
  go_quiet (fail)
  go_wp2_with fail
  go_quiet (fail)
  go_wp2_with fail
  refine Mix.wp_region_mix (fun _ => True) (fun i => ([0, 0, 0, 0, 0, 0, 0, 0, 0, 0, 0, 0, 0, 0, 2] : List Nat).getD i 0) [0, 1, 2, 3, 4, 5, 6, 7, 8, 9, 10, 11, 12, 13, 14] (by kernel_rfl) (by kernel_rfl) ?_
  repeat (first | (refine Mix.mix_q (by simp only [List.getElem?_toArray, List.getElem?_cons_zero, List.getElem?_cons_succ]; exact rfl) rfl ?_; go_big_quiet_step (fail); refine wpQuiet_nil ?_) | (refine Mix.mix_p (by simp only [List.getElem?_toArray, List.getElem?_cons_zero, List.getElem?_cons_succ]; exact rfl) rfl rfl ?_; go_big_quiet_step (fail); refine wpQuiet_nil ?_))
  refine Mix.mix_e (by simp only [List.getElem?_toArray, List.getElem?_cons_zero, List.getElem?_cons_succ]; exact rfl) rfl fun W hW => ?_
  obtain ⟨n1, rfl⟩ := hW
  go_wp2_with fail
  refine calls_world fun WW hWW => ?_
  obtain ⟨nn, hnn⟩ : ∃ nn, WW = w.drewN nn := by
    rw [hWW]
    first | exact ⟨_, rfl⟩ | exact ⟨_, (World.drewN_drewN _ _ _)⟩ | exact ⟨_, by rw [World.drewN_drewN]⟩ | exact ⟨_, by rw [World.drewN_drewN, World.drewN_drewN]⟩
  rw [hnn]
  clear hWW hnn
  refine (rstore_ok B rp vb mv s q.t (f.ep : Nat) t1 _ (rbank_drew H.out.r nn) hlen hB ⟨ht.1, ht.2, by omega, by omega⟩).mono ?_
  rintro e w1 ⟨rfl, hs1⟩
  obtain ⟨mv', hb1, hc1, hf1, hfd, hsb, hqd⟩ := rafter H.out HQ.out hs1
  clear a0 a1 a3 b0 b1 r0 ve hw0 hs1
  have a3 : w1.cell? ⟨g, 3, none⟩ = some (.int .u8 q.ph) := hqd.cell 3
  have a4 : w1.cell? ⟨g, 4, none⟩ = some (.bool q.adv) := hqd.cell 4
  have b5 : w1.cell? ⟨rq, 5, none⟩ = some (.bool scn) := hfd.cell 5
  have fa3 := hqd.free 3
  have fa4 := hqd.free 4
  have fb5 := hfd.free 5
  have Hb1 := hid hb1
  have Hc1 := hid hc1
  have Hf1 := hid hf1
  have Hfd := hid hfd
  have Hsb := hid hsb
  have Hqd := hid hqd
  clear hb1 hc1 hf1 hfd hsb hqd
  go_wp2_with fail
  intro n2
  go_wp2_with fail
  go_quiet (fail)
  go_wp2_with fail
  go_ret2
  exact rres_close H.out Hb1.out Hc1.out Hf1.out Hfd.out Hsb.out Hqd.out (List.length_set ..) rfl ((((((Ch.refl (fun b => b = rq ∨ b = stb ∨ b = g) w1).drewN _).set (fun _ => .inr (.inr rfl)) _).set (fun _ => .inr (.inr rfl)) _).set (fun _ => .inl rfl) _).drewN _) (((((Hfd.out.drewN _).far n_rq_g _).far n_rq_g _).put 5 _).drewN _) (((((Hsb.out.drewN _).far n_stb_g _).far n_stb_g _).far n_stb_rq _).drewN _) (((((Hqd.out.drewN _).put 3 _).put 4 _).far n_g_rq _).drewN _)
set_option maxHeartbeats 400000 in
theorem rsn0 (hph : q.ph = 0) : Calls Try.prog 32 #[.pointer (some ⟨g, 0, none⟩)] w (RRes B rp vb rq stb g 126 mv f sl s st scn (rsnCells rq q a) w (.tuple #[.int .u8 q.ph, .bool true])) := by
  have a0 : w.cell? ⟨g, 0, none⟩ = some (.pointer (some ⟨rq, 0, none⟩)) := hq.cell 0
  have a3 : w.cell? ⟨g, 3, none⟩ = some (.int .u8 q.ph) := hq.cell 3
  have b0 : w.cell? ⟨rq, 0, none⟩ = some (.pointer (some ⟨rp, 0, none⟩)) := h.fd.cell 0
  have b1 : w.cell? ⟨rq, 1, none⟩ = some (.int .i64 f.ep) := h.fd.cell 1
  have r0 : w.cell? ⟨rp, 0, none⟩ = some (.slice (some ⟨vb, 0, none⟩) s.vs.length s.vs.length) := h.r.hp.cell 0
  have he := h.ok.e
  have de : decide (f.ep < s.vs.length) = true := decide_eq_true he
  have ve : w.cell? ⟨vb, f.ep, none⟩ = some (.int .u64 (lk s.vs f.ep)) := (h.r.hc.cell f.ep).trans (u64s_getD s.vs f.ep he)
  have b34 : (q.ph == 34) = false := by rw [beq_eq_false_iff_ne, hph]; decide
  have b35 : (q.ph == 35) = false := by rw [beq_eq_false_iff_ne, hph]; decide
  have b0' : (q.ph == 0) = true := by rw [beq_iff_eq]; exact hph
  have H := hid h
  have HQ := hid hq
  clear h hq hph
  go_enter Try.func32, Try.ntmps32
  go_wp2_with fail
  go_quiet (fail)
  go_wp2_with fail
  go_quiet (fail)
  go_wp2_with fail
  go_quiet (fail)
  go_wp2_with fail
  go_ret2
  first | exact rres_close H.out H.out.r (Ch.refl _ _) (.inl rfl) H.out.fd H.out.sb HQ.out rfl rfl ((Ch.refl (fun b => b = rq ∨ b = stb ∨ b = g) w).drewN _) (H.out.fd.drewN _) (H.out.sb.drewN _) (HQ.out.drewN _) | exact rres_close H.out H.out.r (Ch.refl _ _) (.inl rfl) H.out.fd H.out.sb HQ.out rfl rfl (((Ch.refl (fun b => b = rq ∨ b = stb ∨ b = g) w).drewN _).drewN _) ((H.out.fd.drewN _).drewN _) ((H.out.sb.drewN _).drewN _) ((HQ.out.drewN _).drewN _) | exact rres_close H.out H.out.r (Ch.refl _ _) (.inl rfl) H.out.fd H.out.sb HQ.out rfl rfl ((((Ch.refl (fun b => b = rq ∨ b = stb ∨ b = g) w).drewN _).drewN _).drewN _) (((H.out.fd.drewN _).drewN _).drewN _) (((H.out.sb.drewN _).drewN _).drewN _) (((HQ.out.drewN _).drewN _).drewN _)
/-- A step of a scan. -/
theorem rsn_step (hph : q.ph = 0 ∨ (q.ph = 34 ∧ q.at' < f.n ∧ a = q.at') ∨ q.ph = 35) (hsc : scn = (q.ph != 0)) : Calls Try.prog 32 #[.pointer (some ⟨g, 0, none⟩)] w (fun e w' => ∃ a' : Int, ((snstep s f q).2.ph = 34 → a' = (snstep s f q).2.at') ∧ RRes B rp vb rq stb g 126 mv f sl (snstep s f q).1 st ((snstep s f q).2.ph != 0) (rsnCells rq (snstep s f q).2 a') w (.tuple #[.int .u8 q.ph, .bool ((snstep s f q).2.ph == 0)]) e w') := by
  rcases hph with e | ⟨e, hs, ha⟩ | e
  · have : snstep s f q = (s, q) := by unfold snstep; rw [if_neg (by rw [e]; decide), if_neg (by rw [e]; decide)]
    rw [this, ← hsc]
    have := rsn0 B rp vb rq stb g mv s f sl st scn q a w h hq ht hlen hB e
    rw [show (q.ph == 0) = true by rw [e]; rfl]
    exact this.mono fun e' w' hh => ⟨a, (fun c => absurd (e.symm.trans c) (by decide)), hh⟩
  · have hst : scn = true := by rw [hsc, e]; rfl
    by_cases h0 : lk s.vs (f.slot q.at') = 0
    · by_cases hb : q.at' + 1 < f.n
      · have : snstep s f q = (s.load q.t (f.slot q.at' : Nat), { q with at' := q.at' + 1 }) := by unfold snstep; rw [if_pos e, if_neg (fun c => c.1 h0), if_pos hb, ← e]
        rw [this, show ((({ q with at' := q.at' + 1 } : Sn).ph != 0)) = scn from hsc.symm, show ((({ q with at' := q.at' + 1 } : Sn).ph == 0)) = false by show (q.ph == 0) = false; rw [e]; rfl]
        exact (rsn34za B rp vb rq stb g mv s f sl st scn q a w h hq ht hlen hB ha e hs h0 hb).mono fun e' w' hh => ⟨_, fun _ => rfl, hh⟩
      · have : snstep s f q = (s.load q.t (f.slot q.at' : Nat), { q with at' := q.at' + 1, ph := 35 }) := by unfold snstep; rw [if_pos e, if_neg (fun c => c.1 h0), if_neg hb]
        rw [this, show (((35 : Int) != 0)) = scn from hst.symm]
        exact (rsn34zb B rp vb rq stb g mv s f sl st scn q a w h hq ht hlen hB ha e hs h0 hb).mono fun e' w' hh => ⟨_, fun _ => rfl, hh⟩
    · by_cases h1 : lk s.vs (f.slot q.at') = w64 (lk s.vs f.ep + 1)
      · by_cases hb : q.at' + 1 < f.n
        · have : snstep s f q = (s.load q.t (f.slot q.at' : Nat), { q with at' := q.at' + 1 }) := by unfold snstep; rw [if_pos e, if_neg (fun c => c.2 h1), if_pos hb, ← e]
          rw [this, show ((({ q with at' := q.at' + 1 } : Sn).ph != 0)) = scn from hsc.symm, show ((({ q with at' := q.at' + 1 } : Sn).ph == 0)) = false by show (q.ph == 0) = false; rw [e]; rfl]
          exact (rsn34oa B rp vb rq stb g mv s f sl st scn q a w h hq ht hlen hB ha e hs h0 h1 hb).mono fun e' w' hh => ⟨_, fun _ => rfl, hh⟩
        · have : snstep s f q = (s.load q.t (f.slot q.at' : Nat), { q with at' := q.at' + 1, ph := 35 }) := by unfold snstep; rw [if_pos e, if_neg (fun c => c.2 h1), if_neg hb]
          rw [this, show (((35 : Int) != 0)) = scn from hst.symm]
          exact (rsn34ob B rp vb rq stb g mv s f sl st scn q a w h hq ht hlen hB ha e hs h0 h1 hb).mono fun e' w' hh => ⟨_, fun _ => rfl, hh⟩
      · have : snstep s f q = (s.load q.t (f.slot q.at' : Nat), { q with ph := 0 }) := by unfold snstep; rw [if_pos e, if_pos ⟨h0, h1⟩]
        rw [this]
        exact (rsn34c B rp vb rq stb g mv s f sl st scn q a w h hq ht hlen hB ha e hs h0 h1).mono fun e' w' hh => ⟨_, fun c => absurd (show (0 : Int) = 34 from c) (by decide), hh⟩
  · have : snstep s f q = (s.store q.t f.ep (w64 (lk s.vs f.ep + 1)), { q with adv := true, ph := 0 }) := by unfold snstep; rw [if_neg (by rw [e]; decide), if_pos e]
    rw [this]
    exact (rsn35 B rp vb rq stb g mv s f sl st scn q a w h hq ht hlen hB e).mono fun e' w' hh => ⟨_, fun c => absurd (show (0 : Int) = 34 from c) (by decide), hh⟩
end
end Go.Proofs.Ytokcodeeaneeaaa
