/- Scans: the inner functions; the steps. -/
import Derived.Test.YtokcodeeaneeaaaEpB
namespace Go.Proofs.Ytokcodeeaneeaaa
open Go.RowKit
set_option linter.unusedVariables false
set_option linter.unusedSimpArgs false
set_option linter.unusedSectionVars false

section
variable {B p cb qb g : Nat} {t : TypeId} {lv lv' : Value} {s s' : BS} {f : Ed} {pins sc : Value} {cs cs' : Array Value} {w w1 w2 w' : World} {e : Ending}
theorem Fresh.trans {v v' v'' : Value} (h : Fresh w v v') (k : Fresh w2 v' v'') (hz : w.heap.size ≤ w2.heap.size) : Fresh w v v'' := by
  rcases k with k | k
  · rcases h with h | h
    · exact .inl (k.trans h)
    · exact .inr fun b hb => h b (by rw [← k]; exact hb)
  · exact .inr fun b hb => Nat.le_trans hz (k b hb)
theorem fp_back (hf : Fresh w lv lv') {k : Nat} (hk : k < w.heap.size) (h : FP p cb lv' k ∨ k = g) : FP p cb lv k ∨ k = g := by
  rcases h with (e | e | e) | e
  · exact .inl (.inl e)
  · exact .inl (.inr (.inl e))
  · rcases hf with hf | hf
    · exact .inl (.inr (.inr (by rw [← hf]; exact e)))
    · have := hf k e
      omega
  · exact .inr e
theorem eres_trans (c1 : Ch (fun b => FP p cb lv b ∨ b = g) w w2) (f1 : Fresh w lv lv') (h : ERes B p cb qb g t lv' f pins sc s' cs' w2 e w') : ERes B p cb qb g t lv f pins sc s' cs' w e w' := by
  obtain ⟨rfl, lv2, h1, h2, h3, h4⟩ := h
  exact ⟨rfl, lv2, h1, h2, c1.trans h3 (fun i hi hk => fp_back f1 hi hk), f1.trans h4 c1.size⟩
/-- A step's end. -/
def EStep (B p cb qb g : Nat) (t : TypeId) (lv : Value) (f : Ed) (pins sc : Value) (s' : BS) (cs : Array Value) (ph : Int) (b : Bool) (w : World) (e : Ending) (w' : World) : Prop :=
  e = .returned (.tuple #[.int .u8 ph, .bool b]) ∧ ∃ lv', EpochM B w' p cb qb lv' s' f pins sc ∧ Blk w' g t cs ∧ Ch (fun b => FP p cb lv b ∨ b = g) w w' ∧ Fresh w lv lv'
end

/-- Nothing but the operation's own block has changed. -/
def EOwn (B p cb qb g : Nat) (t : TypeId) (lv : Value) (f : Ed) (pins sc : Value) (s : BS) (cs : Array Value) (w : World) (e : Ending) (w' : World) : Prop :=
  e = .returned (.tuple #[]) ∧ EpochM B w' p cb qb lv s f pins sc ∧ Blk w' g t cs ∧ Ch (fun b => b = g) w w'
theorem eown_of {B p cb qb g : Nat} {t : TypeId} {lv : Value} {s : BS} {f : Ed} {pins sc : Value} {cs cs' : Array Value} {w w' : World} (h : EpochM B w p cb qb lv s f pins sc) (hq : Blk w g t cs) (c2 : Ch (fun b => b = g) w w') (hq' : Blk w' g t cs') (h1 : t ≠ 97 := by decide) (h2 : t ≠ 102 := by decide) (h3 : t ≠ 128 := by decide) (h4 : t ≠ 109 := by decide) :
    EOwn B p cb qb g t lv f pins sc s cs' w (.returned (.tuple #[])) w' := by
  have n1 := not_fp h.b hq h1 h2 h3
  exact ⟨rfl, h.ch c2 (fun e => n1 (.inl e.symm)) (fun e => n1 (.inr (.inl e.symm))) (fun k hk e => n1 (.inr (.inr (by rw [← e]; exact hk)))) (fun e => hq.ne h.fd h4 e.symm), hq', c2⟩
def snBeg (f : Ed) (q : Sn) : Sn := { q with ph := if q.at' < f.n then 34 else 35 }

section
variable (B p cb qb g : Nat) (lv : Value) (s : BS) (f : Ed) (pins sc : Value) (q : Sn) (w : World) (h : EpochM B w p cb qb lv s f pins sc) (hq : Blk w g 124 (snCells qb g q))
include h hq
set_option maxRecDepth 100000 in
set_option maxHeartbeats 1000000 in
theorem sn_begin0 : Calls Try.prog 63 #[.pointer (some ⟨g, 0, none⟩)] w (EOwn B p cb qb g 124 lv f pins sc s (snCells qb g (snBeg f q)) w) := by
  have a0 : w.cell? ⟨g, 0, none⟩ = some (.pointer (some ⟨qb, 0, none⟩)) := hq.cell 0
  have a4 : w.cell? ⟨g, 4, none⟩ = some (.int .i64 q.at') := hq.cell 4
  have b3 : w.cell? ⟨qb, 3, none⟩ = some (.int .i64 f.n) := h.fd.cell 3
  unfold snBeg
  have H := hid h
  have HQ := hid hq
  clear h hq
  by_cases hc : q.at' < f.n
  · have d1 : decide (q.at' < f.n) = true := decide_eq_true hc
    have d1' : decide ((q.at' : Int) < (f.n : Int)) = true := decide_eq_true (by omega)
    rw [if_pos hc]
    go_enter Try.func63, Try.ntmps63
    go_wp2_with fail
    go_quiet (fail)
    go_wp2_with fail
    refine (then_any g 124 _ _ (HQ.out.drewN nq) (.int .u8 q.ph) (snDo g q.ph) rfl rfl 34 73).mono ?_
    rintro e w3 ⟨rfl, k3, c3⟩
    go_wp2_with fail
    go_end0
    exact eown_of H.out HQ.out (((Ch.refl (fun b => b = g) w).drewN nq).trans c3 (fun _ _ h => h)) k3
  · have d1 : decide (q.at' < f.n) = false := decide_eq_false hc
    have d1' : decide ((q.at' : Int) < (f.n : Int)) = false := decide_eq_false (by omega)
    rw [if_neg hc]
    go_enter Try.func63, Try.ntmps63
    go_wp2_with fail
    go_quiet (fail)
    go_wp2_with fail
    refine (then_any g 124 _ _ (HQ.out.drewN nq) (.int .u8 q.ph) (snDo g q.ph) rfl rfl 35 74).mono ?_
    rintro e w3 ⟨rfl, k3, c3⟩
    go_wp2_with fail
    go_end0
    exact eown_of H.out HQ.out (((Ch.refl (fun b => b = g) w).drewN nq).trans c3 (fun _ _ h => h)) k3
theorem sn_begin : Calls Try.prog 63 #[.pointer (some ⟨g, 0, none⟩)] w (ERes B p cb qb g 124 lv f pins sc s (snCells qb g (snBeg f q)) w) :=
  (sn_begin0 B p cb qb g lv s f pins sc q w h hq).mono fun e w' ⟨h1, h2, h3, h4⟩ => ⟨h1, lv, h2, h3, h4.mono fun _ _ h => .inr h, .inl rfl⟩
end

section
variable (B p cb qb g : Nat) (lv : Value) (s : BS) (f : Ed) (pins sc : Value) (q : Sn) (w : World) (h : EpochM B w p cb qb lv s f pins sc) (hq : Blk w g 124 (snCells qb g q)) (ht : 0 ≤ q.t ∧ q.t < 16) (hlen : s.lg.length < 1000000) (hB : B ≤ w.heap.size)
include h hq ht hlen hB
set_option maxRecDepth 100000 in
set_option maxHeartbeats 1000000 in
theorem sn_look0 (hs : q.at' < f.n) (h0 : lk s.vs (f.slot q.at') = 0) : Calls Try.prog 73 #[.pointer (some ⟨g, 0, none⟩)] w (ERes B p cb qb g 124 lv f pins sc (s.load q.t (f.slot q.at' : Nat)) (snCells qb g (snBeg f { q with at' := q.at' + 1 })) w) := by
  have a0 : w.cell? ⟨g, 0, none⟩ = some (.pointer (some ⟨qb, 0, none⟩)) := hq.cell 0
  have a1 : w.cell? ⟨g, 1, none⟩ = some (.int .i64 q.t) := hq.cell 1
  have a4 : w.cell? ⟨g, 4, none⟩ = some (.int .i64 q.at') := hq.cell 4
  have b0 : w.cell? ⟨qb, 0, none⟩ = some (.pointer (some ⟨p, 0, none⟩)) := h.fd.cell 0
  have b2 : w.cell? ⟨qb, 2, none⟩ = some (.int .i64 f.sl) := h.fd.cell 2
  have hn := h.b.hn
  have hf64 := h.ok.n
  have hat0 := hs
  obtain ⟨hk1, hk2⟩ := slot_lt h.ok hs
  have hwr : IntKind.i64.wrap (f.sl + (q.at' : Int)) = (f.slot q.at' : Int) := by rw [hk1]; exact IntWalk.i64_in _ (by omega)
  obtain ⟨k, hk⟩ : ∃ k, k = f.slot q.at' := ⟨_, rfl⟩
  rw [← hk] at hk2 hwr ⊢
  obtain ⟨v, hv⟩ : ∃ v, v = lk s.vs k := ⟨_, rfl⟩
  have hv0 : v = 0 := by rw [hv, hk]; exact h0
  have bv : (v != 0) = false := by rw [hv0]; rfl
  have HV := hid hv
  clear hv h0 hv0
  clear hk hk1 hs
  go_enter Try.func73, Try.ntmps73
  go_wp2_with fail
  refine Mix.wp_region_mix (fun _ => True) (fun i => ([0, 0, 0, 0, 0, 0, 0, 0, 0, 0, 0, 0, 0, 0, 0, 0, 0, 0, 0, 0, 0, 0, 0, 0, 0, 0, 2, 0, 0, 0, 0, 0] : List Nat).getD i 0) [0, 1, 2, 3, 4, 5, 6, 7, 8, 9, 10, 11, 12, 13, 14, 15, 16, 17, 18, 19, 20, 21, 22, 23, 24, 25, 26, 27, 28, 29, 30, 31] (by kernel_rfl) (by kernel_rfl) ?_
  repeat (first | (refine Mix.mix_q (by simp only [List.getElem?_toArray, List.getElem?_cons_zero, List.getElem?_cons_succ]; exact rfl) rfl ?_; go_big_quiet_step (fail); refine wpQuiet_nil ?_) | (refine Mix.mix_p (by simp only [List.getElem?_toArray, List.getElem?_cons_zero, List.getElem?_cons_succ]; exact rfl) rfl rfl ?_; go_big_quiet_step (fail); refine wpQuiet_nil ?_))
  refine Mix.mix_e (by simp only [List.getElem?_toArray, List.getElem?_cons_zero, List.getElem?_cons_succ]; exact rfl) rfl fun W hW => ?_
  obtain ⟨n1, rfl⟩ := hW
  go_wp2_with fail
  refine (load_ok B p cb lv s q.t (k : Nat) _ (bank_drew h.b n1) ⟨ht.1, ht.2, by omega, by omega⟩ hlen hB).mono ?_
  rintro e w1 ⟨rfl, hs1⟩
  obtain ⟨lv', hb1, hc1, hf1, hfd, hqd⟩ := eafter h hq hs1
  have hM1 : EpochM B w1 p cb qb lv' (s.load q.t (k : Nat)) f pins sc := ⟨hb1, hfd, h.ok.of rfl, h.bf⟩
  have HM1 := hid hM1
  clear a0 a1 a4 b0 b2 hs1 hwr hM1
  have Hc1 := hid hc1
  have Hf1 := hid hf1
  have Hqd := hid hqd
  clear hb1 hc1 hf1 hfd hqd
  rw [Int.toNat_natCast, ← HV.out]
  go_wp2_with fail
  repeat (first | (refine Mix.mix_q (by simp only [List.getElem?_toArray, List.getElem?_cons_zero, List.getElem?_cons_succ]; exact rfl) rfl ?_; go_big_quiet_step (fail); refine wpQuiet_nil ?_) | (refine Mix.mix_p (by simp only [List.getElem?_toArray, List.getElem?_cons_zero, List.getElem?_cons_succ]; exact rfl) rfl rfl ?_; go_big_quiet_step (fail); refine wpQuiet_nil ?_))
  intro n2
  obtain ⟨W2, hW2⟩ : ∃ W2, W2 = w1.drewN n2 := ⟨_, rfl⟩
  have HM2 := hid (show EpochM B W2 p cb qb lv' (s.load q.t (k : Nat)) f pins sc by rw [hW2]; exact HM1.out.drewN n2)
  have Hq2 := hid (show Blk W2 g 124 (snCells qb g q) by rw [hW2]; exact Hqd.out.drewN n2)
  have Hc2 := hid (show Ch (fun b => FP p cb lv b ∨ b = g) w W2 by rw [hW2]; exact (Hc1.out.mono fun _ _ h => .inl h).drewN n2)
  rw [← hW2]
  clear hW2
  have a4 : W2.cell? ⟨g, 4, none⟩ = some (.int .i64 q.at') := Hq2.out.cell 4
  have fa4 := Hq2.out.free 4
  have hmx : IntKind.i64.wrap ((q.at' : Int) + 1) = ((q.at' + 1 : Nat) : Int) := by rw [IntWalk.i64_in _ (by omega)]; rfl
  go_wp2_with fail
  clear a4 fa4
  have k5 : Blk (W2.setCell ⟨g, 4, none⟩ (.int .i64 ((q.at' + 1 : Nat) : Int))) g 124 (snCells qb g { q with at' := q.at' + 1 }) := Hq2.out.put 4 _
  refine (sn_begin B p cb qb g lv' _ f pins sc { q with at' := q.at' + 1 } _ (HM2.out.ch ((Ch.refl (fun b => b = g) W2).set (fun _ => rfl) _) (fun e => not_fp HM2.out.b Hq2.out (by decide) (by decide) (by decide) (.inl e.symm)) (fun e => not_fp HM2.out.b Hq2.out (by decide) (by decide) (by decide) (.inr (.inl e.symm))) (fun k hk e => not_fp HM2.out.b Hq2.out (by decide) (by decide) (by decide) (.inr (.inr (by rw [← e]; exact hk)))) (fun e => Hq2.out.ne HM2.out.fd (by decide) e.symm)) k5).mono ?_
  rintro e w5 h5
  obtain ⟨rfl, h5⟩ := h5
  go_wp2_with fail
  go_end0
  exact eres_trans (Hc2.out.trans ((Ch.refl (fun b => b = g) W2).set (fun _ => rfl) _) (fun _ _ h => .inr h)) Hf1.out ⟨rfl, h5⟩
set_option maxRecDepth 100000 in
set_option maxHeartbeats 1000000 in
theorem sn_look1 (hs : q.at' < f.n) (h0 : lk s.vs (f.slot q.at') ≠ 0) (h1 : lk s.vs (f.slot q.at') = w64 (lk s.vs f.ep + 1)) : Calls Try.prog 73 #[.pointer (some ⟨g, 0, none⟩)] w (ERes B p cb qb g 124 lv f pins sc (s.load q.t (f.slot q.at' : Nat)) (snCells qb g (snBeg f { q with at' := q.at' + 1 })) w) := by
  have a0 : w.cell? ⟨g, 0, none⟩ = some (.pointer (some ⟨qb, 0, none⟩)) := hq.cell 0
  have a1 : w.cell? ⟨g, 1, none⟩ = some (.int .i64 q.t) := hq.cell 1
  have a4 : w.cell? ⟨g, 4, none⟩ = some (.int .i64 q.at') := hq.cell 4
  have b0 : w.cell? ⟨qb, 0, none⟩ = some (.pointer (some ⟨p, 0, none⟩)) := h.fd.cell 0
  have b2 : w.cell? ⟨qb, 2, none⟩ = some (.int .i64 f.sl) := h.fd.cell 2
  have hn := h.b.hn
  have hf64 := h.ok.n
  have hat0 := hs
  obtain ⟨hk1, hk2⟩ := slot_lt h.ok hs
  have hwr : IntKind.i64.wrap (f.sl + (q.at' : Int)) = (f.slot q.at' : Int) := by rw [hk1]; exact IntWalk.i64_in _ (by omega)
  obtain ⟨k, hk⟩ : ∃ k, k = f.slot q.at' := ⟨_, rfl⟩
  rw [← hk] at hk2 hwr ⊢
  obtain ⟨v, hv⟩ : ∃ v, v = lk s.vs k := ⟨_, rfl⟩
  have bv : (v != 0) = true := by rw [bne_iff_ne, hv, hk]; exact h0
  obtain ⟨t1, ht1⟩ : ∃ t1, t1 = w64 (lk s.vs f.ep + 1) := ⟨_, rfl⟩
  have bt : (v != t1) = false := by rw [bne_eq_false_iff_eq, hv, hk, ht1]; exact h1
  have HT1 := hid ht1
  have HV := hid hv
  clear hv h0 ht1 h1
  clear hk hk1 hs
  go_enter Try.func73, Try.ntmps73
  go_wp2_with fail
  refine Mix.wp_region_mix (fun _ => True) (fun i => ([0, 0, 0, 0, 0, 0, 0, 0, 0, 0, 0, 0, 0, 0, 0, 0, 0, 0, 0, 0, 0, 0, 0, 0, 0, 0, 2, 0, 0, 0, 0, 0] : List Nat).getD i 0) [0, 1, 2, 3, 4, 5, 6, 7, 8, 9, 10, 11, 12, 13, 14, 15, 16, 17, 18, 19, 20, 21, 22, 23, 24, 25, 26, 27, 28, 29, 30, 31] (by kernel_rfl) (by kernel_rfl) ?_
  repeat (first | (refine Mix.mix_q (by simp only [List.getElem?_toArray, List.getElem?_cons_zero, List.getElem?_cons_succ]; exact rfl) rfl ?_; go_big_quiet_step (fail); refine wpQuiet_nil ?_) | (refine Mix.mix_p (by simp only [List.getElem?_toArray, List.getElem?_cons_zero, List.getElem?_cons_succ]; exact rfl) rfl rfl ?_; go_big_quiet_step (fail); refine wpQuiet_nil ?_))
  refine Mix.mix_e (by simp only [List.getElem?_toArray, List.getElem?_cons_zero, List.getElem?_cons_succ]; exact rfl) rfl fun W hW => ?_
  obtain ⟨n1, rfl⟩ := hW
  go_wp2_with fail
  refine (load_ok B p cb lv s q.t (k : Nat) _ (bank_drew h.b n1) ⟨ht.1, ht.2, by omega, by omega⟩ hlen hB).mono ?_
  rintro e w1 ⟨rfl, hs1⟩
  obtain ⟨lv', hb1, hc1, hf1, hfd, hqd⟩ := eafter h hq hs1
  have hM1 : EpochM B w1 p cb qb lv' (s.load q.t (k : Nat)) f pins sc := ⟨hb1, hfd, h.ok.of rfl, h.bf⟩
  have HM1 := hid hM1
  clear a0 a1 a4 b0 b2 hs1 hwr hM1
  have Hc1 := hid hc1
  have Hf1 := hid hf1
  have Hqd := hid hqd
  clear hb1 hc1 hf1 hfd hqd
  rw [Int.toNat_natCast, ← HV.out]
  go_wp2_with fail
  repeat (first | (refine Mix.mix_q (by simp only [List.getElem?_toArray, List.getElem?_cons_zero, List.getElem?_cons_succ]; exact rfl) rfl ?_; go_big_quiet_step (fail); refine wpQuiet_nil ?_) | (refine Mix.mix_p (by simp only [List.getElem?_toArray, List.getElem?_cons_zero, List.getElem?_cons_succ]; exact rfl) rfl rfl ?_; go_big_quiet_step (fail); refine wpQuiet_nil ?_))
  intro n2
  obtain ⟨W2, hW2⟩ : ∃ W2, W2 = w1.drewN n2 := ⟨_, rfl⟩
  have HM2 := hid (show EpochM B W2 p cb qb lv' (s.load q.t (k : Nat)) f pins sc by rw [hW2]; exact HM1.out.drewN n2)
  have Hq2 := hid (show Blk W2 g 124 (snCells qb g q) by rw [hW2]; exact Hqd.out.drewN n2)
  have Hc2 := hid (show Ch (fun b => FP p cb lv b ∨ b = g) w W2 by rw [hW2]; exact (Hc1.out.mono fun _ _ h => .inl h).drewN n2)
  rw [← hW2]
  clear hW2
  have a0 : W2.cell? ⟨g, 0, none⟩ = some (.pointer (some ⟨qb, 0, none⟩)) := Hq2.out.cell 0
  go_wp2_with fail
  clear a0
  refine (now_any B p cb qb lv' _ f pins sc W2 HM2.out).mono ?_
  rintro e w3 ⟨rfl, n3, rfl⟩
  rw [show lk (s.load q.t (k : Nat)).vs f.ep = lk s.vs f.ep from rfl]
  obtain ⟨t0, ht0⟩ : ∃ t0, t0 = lk s.vs f.ep := ⟨_, rfl⟩
  rw [← ht0] at HT1 ⊢
  have hw0 : IntKind.u64.wrap (t0 + 1) = t1 := by rw [w64_wrap]; exact HT1.out.symm
  have HM3 := hid (HM2.out.drewN n3)
  have Hq3 := hid (Hq2.out.drewN n3)
  have Hc3 := hid (Hc2.out.drewN n3)
  clear ht0
  have a4 : (W2.drewN n3).cell? ⟨g, 4, none⟩ = some (.int .i64 q.at') := Hq3.out.cell 4
  have fa4 := Hq3.out.free 4
  have hmx : IntKind.i64.wrap ((q.at' : Int) + 1) = ((q.at' + 1 : Nat) : Int) := by rw [IntWalk.i64_in _ (by omega)]; rfl
  go_wp2_with fail
  clear a4 fa4
  have k5 : Blk ((W2.drewN n3).setCell ⟨g, 4, none⟩ (.int .i64 ((q.at' + 1 : Nat) : Int))) g 124 (snCells qb g { q with at' := q.at' + 1 }) := Hq3.out.put 4 _
  refine (sn_begin B p cb qb g lv' _ f pins sc { q with at' := q.at' + 1 } _ (HM3.out.ch ((Ch.refl (fun b => b = g) (W2.drewN n3)).set (fun _ => rfl) _) (fun e => not_fp HM3.out.b Hq3.out (by decide) (by decide) (by decide) (.inl e.symm)) (fun e => not_fp HM3.out.b Hq3.out (by decide) (by decide) (by decide) (.inr (.inl e.symm))) (fun k hk e => not_fp HM3.out.b Hq3.out (by decide) (by decide) (by decide) (.inr (.inr (by rw [← e]; exact hk)))) (fun e => Hq3.out.ne HM3.out.fd (by decide) e.symm)) k5).mono ?_
  rintro e w5 h5
  obtain ⟨rfl, h5⟩ := h5
  go_wp2_with fail
  go_end0
  exact eres_trans (Hc3.out.trans ((Ch.refl (fun b => b = g) (W2.drewN n3)).set (fun _ => rfl) _) (fun _ _ h => .inr h)) Hf1.out ⟨rfl, h5⟩
set_option maxRecDepth 100000 in
set_option maxHeartbeats 1000000 in
theorem sn_look2 (hs : q.at' < f.n) (h0 : lk s.vs (f.slot q.at') ≠ 0) (h1 : lk s.vs (f.slot q.at') ≠ w64 (lk s.vs f.ep + 1)) : Calls Try.prog 73 #[.pointer (some ⟨g, 0, none⟩)] w (ERes B p cb qb g 124 lv f pins sc (s.load q.t (f.slot q.at' : Nat)) (snCells qb g { q with ph := 0 }) w) := by
  have a0 : w.cell? ⟨g, 0, none⟩ = some (.pointer (some ⟨qb, 0, none⟩)) := hq.cell 0
  have a1 : w.cell? ⟨g, 1, none⟩ = some (.int .i64 q.t) := hq.cell 1
  have a4 : w.cell? ⟨g, 4, none⟩ = some (.int .i64 q.at') := hq.cell 4
  have b0 : w.cell? ⟨qb, 0, none⟩ = some (.pointer (some ⟨p, 0, none⟩)) := h.fd.cell 0
  have b2 : w.cell? ⟨qb, 2, none⟩ = some (.int .i64 f.sl) := h.fd.cell 2
  have hn := h.b.hn
  have hf64 := h.ok.n
  have hat0 := hs
  obtain ⟨hk1, hk2⟩ := slot_lt h.ok hs
  have hwr : IntKind.i64.wrap (f.sl + (q.at' : Int)) = (f.slot q.at' : Int) := by rw [hk1]; exact IntWalk.i64_in _ (by omega)
  obtain ⟨k, hk⟩ : ∃ k, k = f.slot q.at' := ⟨_, rfl⟩
  rw [← hk] at hk2 hwr ⊢
  obtain ⟨v, hv⟩ : ∃ v, v = lk s.vs k := ⟨_, rfl⟩
  have bv : (v != 0) = true := by rw [bne_iff_ne, hv, hk]; exact h0
  obtain ⟨t1, ht1⟩ : ∃ t1, t1 = w64 (lk s.vs f.ep + 1) := ⟨_, rfl⟩
  have bt : (v != t1) = true := by rw [bne_iff_ne, hv, hk, ht1]; exact h1
  have HT1 := hid ht1
  have HV := hid hv
  clear hv h0 ht1 h1
  clear hk hk1 hs
  go_enter Try.func73, Try.ntmps73
  go_wp2_with fail
  refine Mix.wp_region_mix (fun _ => True) (fun i => ([0, 0, 0, 0, 0, 0, 0, 0, 0, 0, 0, 0, 0, 0, 0, 0, 0, 0, 0, 0, 0, 0, 0, 0, 0, 0, 2, 0, 0, 0, 0, 0] : List Nat).getD i 0) [0, 1, 2, 3, 4, 5, 6, 7, 8, 9, 10, 11, 12, 13, 14, 15, 16, 17, 18, 19, 20, 21, 22, 23, 24, 25, 26, 27, 28, 29, 30, 31] (by kernel_rfl) (by kernel_rfl) ?_
  repeat (first | (refine Mix.mix_q (by simp only [List.getElem?_toArray, List.getElem?_cons_zero, List.getElem?_cons_succ]; exact rfl) rfl ?_; go_big_quiet_step (fail); refine wpQuiet_nil ?_) | (refine Mix.mix_p (by simp only [List.getElem?_toArray, List.getElem?_cons_zero, List.getElem?_cons_succ]; exact rfl) rfl rfl ?_; go_big_quiet_step (fail); refine wpQuiet_nil ?_))
  refine Mix.mix_e (by simp only [List.getElem?_toArray, List.getElem?_cons_zero, List.getElem?_cons_succ]; exact rfl) rfl fun W hW => ?_
  obtain ⟨n1, rfl⟩ := hW
  go_wp2_with fail
  refine (load_ok B p cb lv s q.t (k : Nat) _ (bank_drew h.b n1) ⟨ht.1, ht.2, by omega, by omega⟩ hlen hB).mono ?_
  rintro e w1 ⟨rfl, hs1⟩
  obtain ⟨lv', hb1, hc1, hf1, hfd, hqd⟩ := eafter h hq hs1
  have hM1 : EpochM B w1 p cb qb lv' (s.load q.t (k : Nat)) f pins sc := ⟨hb1, hfd, h.ok.of rfl, h.bf⟩
  have HM1 := hid hM1
  clear a0 a1 a4 b0 b2 hs1 hwr hM1
  have Hc1 := hid hc1
  have Hf1 := hid hf1
  have Hqd := hid hqd
  clear hb1 hc1 hf1 hfd hqd
  rw [Int.toNat_natCast, ← HV.out]
  go_wp2_with fail
  repeat (first | (refine Mix.mix_q (by simp only [List.getElem?_toArray, List.getElem?_cons_zero, List.getElem?_cons_succ]; exact rfl) rfl ?_; go_big_quiet_step (fail); refine wpQuiet_nil ?_) | (refine Mix.mix_p (by simp only [List.getElem?_toArray, List.getElem?_cons_zero, List.getElem?_cons_succ]; exact rfl) rfl rfl ?_; go_big_quiet_step (fail); refine wpQuiet_nil ?_))
  intro n2
  obtain ⟨W2, hW2⟩ : ∃ W2, W2 = w1.drewN n2 := ⟨_, rfl⟩
  have HM2 := hid (show EpochM B W2 p cb qb lv' (s.load q.t (k : Nat)) f pins sc by rw [hW2]; exact HM1.out.drewN n2)
  have Hq2 := hid (show Blk W2 g 124 (snCells qb g q) by rw [hW2]; exact Hqd.out.drewN n2)
  have Hc2 := hid (show Ch (fun b => FP p cb lv b ∨ b = g) w W2 by rw [hW2]; exact (Hc1.out.mono fun _ _ h => .inl h).drewN n2)
  rw [← hW2]
  clear hW2
  have a0 : W2.cell? ⟨g, 0, none⟩ = some (.pointer (some ⟨qb, 0, none⟩)) := Hq2.out.cell 0
  go_wp2_with fail
  clear a0
  refine (now_any B p cb qb lv' _ f pins sc W2 HM2.out).mono ?_
  rintro e w3 ⟨rfl, n3, rfl⟩
  rw [show lk (s.load q.t (k : Nat)).vs f.ep = lk s.vs f.ep from rfl]
  obtain ⟨t0, ht0⟩ : ∃ t0, t0 = lk s.vs f.ep := ⟨_, rfl⟩
  rw [← ht0] at HT1 ⊢
  have hw0 : IntKind.u64.wrap (t0 + 1) = t1 := by rw [w64_wrap]; exact HT1.out.symm
  have HM3 := hid (HM2.out.drewN n3)
  have Hq3 := hid (Hq2.out.drewN n3)
  have Hc3 := hid (Hc2.out.drewN n3)
  clear ht0
  go_wp2_with fail
  refine (end_any g 124 _ _ Hq3.out (.int .u8 q.ph) (snDo g q.ph) rfl rfl).mono ?_
  rintro e w5 ⟨rfl, k5, c5⟩
  go_wp2_with fail
  go_end0
  exact eres_trans Hc3.out Hf1.out (eres_own HM3.out Hq3.out c5 k5)
set_option maxRecDepth 100000 in
set_option maxHeartbeats 1000000 in
theorem sn_bump : Calls Try.prog 74 #[.pointer (some ⟨g, 0, none⟩)] w (ERes B p cb qb g 124 lv f pins sc (s.store q.t f.ep (w64 (lk s.vs f.ep + 1))) (snCells qb g { q with adv := true, ph := 0 }) w) := by
  have a0 : w.cell? ⟨g, 0, none⟩ = some (.pointer (some ⟨qb, 0, none⟩)) := hq.cell 0
  have a1 : w.cell? ⟨g, 1, none⟩ = some (.int .i64 q.t) := hq.cell 1
  have b0 : w.cell? ⟨qb, 0, none⟩ = some (.pointer (some ⟨p, 0, none⟩)) := h.fd.cell 0
  have b1 : w.cell? ⟨qb, 1, none⟩ = some (.int .i64 f.ep) := h.fd.cell 1
  have hn := h.b.hn
  have hke := h.ok.e
  have hw0 : IntKind.u64.wrap (lk s.vs f.ep + 1) = w64 (lk s.vs f.ep + 1) := w64_wrap _
  have hbd0 := w64_bd (lk s.vs f.ep + 1)
  obtain ⟨t1, ht1⟩ : ∃ t1, t1 = w64 (lk s.vs f.ep + 1) := ⟨_, rfl⟩
  rw [← ht1] at hw0 hbd0 ⊢
  have Hbd := hid hbd0
  clear ht1 hbd0
  go_enter Try.func74, Try.ntmps74
  go_wp2_with fail
  refine Mix.wp_region_mix (fun _ => True) (fun i => ([0, 0, 0, 0, 0, 0, 0, 0, 0, 0, 0, 0, 0, 0, 0, 0, 0, 0, 0, 0, 0, 0, 0, 0, 0, 0, 0, 0, 2] : List Nat).getD i 0) [0, 1, 2, 3, 4, 5, 6, 7, 8, 9, 10, 11, 12, 13, 14, 15, 16, 17, 18, 19, 20, 21, 22, 23, 24, 25, 26, 27, 28] (by kernel_rfl) (by kernel_rfl) ?_
  repeat (first | (refine Mix.mix_q (by simp only [List.getElem?_toArray, List.getElem?_cons_zero, List.getElem?_cons_succ]; exact rfl) rfl ?_; go_big_quiet_step ((go_at_call 17; exact now_q B p cb qb lv s f pins sc w h _)); refine wpQuiet_nil ?_) | (refine Mix.mix_p (by simp only [List.getElem?_toArray, List.getElem?_cons_zero, List.getElem?_cons_succ]; exact rfl) rfl rfl ?_; go_big_quiet_step (fail); refine wpQuiet_nil ?_))
  refine Mix.mix_e (by simp only [List.getElem?_toArray, List.getElem?_cons_zero, List.getElem?_cons_succ]; exact rfl) rfl fun W hW => ?_
  obtain ⟨n1, rfl⟩ := hW
  go_wp2_with fail
  refine (store_ok B p cb lv s q.t (f.ep : Nat) t1 _ (bank_drew h.b n1) ⟨ht.1, ht.2, by omega, by omega⟩ hlen hB Hbd.out).mono ?_
  rintro e w1 ⟨rfl, hs1⟩
  obtain ⟨lv', hb1, hc1, hf1, hfd, hqd⟩ := eafter h hq hs1
  clear a0 a1 b0 b1 hs1 hw0
  have a5 : w1.cell? ⟨g, 5, none⟩ = some (.bool q.adv) := hqd.cell 5
  have fa5 := hqd.free 5
  have Hb1 := hid hb1
  have Hc1 := hid hc1
  have Hf1 := hid hf1
  have Hfd := hid hfd
  have Hqd := hid hqd
  clear hb1 hc1 hf1 hfd hqd
  go_wp2_with fail
  intro n2
  go_wp2_with fail
  have k2 := (Hqd.out.drewN n2).put 5 (.bool true)
  refine (end_any g 124 _ _ k2 (.int .u8 q.ph) (snDo g q.ph) rfl rfl).mono ?_
  rintro e w3 ⟨rfl, k3, c3⟩
  go_wp2_with fail
  go_end0
  exact eres_close h Hb1.out Hc1.out Hf1.out Hfd.out Hqd.out (List.length_set ..) ((((Ch.refl (fun b => b = g) w1).drewN n2).set (fun _ => rfl) _).trans c3 (fun _ _ h => h)) k3
end

set_option maxHeartbeats 400000 in
theorem os_load (B p cb qb g : Nat) (t : TypeId) (lv : Value) (s' : BS) (f : Ed) (pins sc : Value) (cs cs' : Array Value) (ph : Int) (w : World) (hq : Blk w g t cs) (h2 : cs[2]? = some (.int .u8 ph)) (h3 : cs[3]? = some (.func (.func 60) #[.pointer (some ⟨g, 0, none⟩)] #[]))
    (hF : Calls Try.prog 60 #[.pointer (some ⟨g, 0, none⟩)] w (ERes B p cb qb g t lv f pins sc s' cs' w)) (h3' : cs'[3]? = some (.func (.func 72) #[.pointer (some ⟨g, 0, none⟩)] #[])) :
    Calls Try.prog 61 #[.pointer (some ⟨g, 0, none⟩)] w (EStep B p cb qb g t lv f pins sc s' cs' ph false w) := by
  have hd : ∀ W : World, (binOp .eql 1 (.func (.func 72) #[.pointer (some ⟨g, 0, none⟩)] #[]) .nilFunc).run Try.prog W = .ok (.bool false) W := fun W => by kernel_rfl
  have a2 : w.cell? ⟨g, 2, none⟩ = some (.int .u8 ph) := (hq.cell 2).trans h2
  have a3 : w.cell? ⟨g, 3, none⟩ = some (.func (.func 60) #[.pointer (some ⟨g, 0, none⟩)] #[]) := (hq.cell 3).trans h3
  have hfn : ∀ W : World, (binOp .neq 1 (.func (.func 60) #[.pointer (some ⟨g, 0, none⟩)] #[]) .nilFunc).run Try.prog W = .ok (.bool true) W := fun W => by kernel_rfl
  have HF := hid hF
  have H3' := hid h3'
  clear hq h2 h3 hF h3'
  go_enter Try.func61, Try.ntmps61
  go_wp2_with fail
  refine HF.out.mono ?_
  rintro e w1 ⟨rfl, lv', hM, hB, hc, hf⟩
  have a3' : w1.cell? ⟨g, 3, none⟩ = some (.func (.func 72) #[.pointer (some ⟨g, 0, none⟩)] #[]) := (hB.cell 3).trans H3'.out
  have HM := hid hM
  have HB := hid hB
  have HC := hid hc
  have HFr := hid hf
  clear a2 a3 hM hB hc hf
  go_wp2_with fail
  go_quiet (fail)
  go_wp2_with fail
  go_ret2
  exact ⟨rfl, lv', HM.out.drewN nq, HB.out.drewN nq, HC.out.drewN nq, HFr.out⟩
set_option maxHeartbeats 400000 in
theorem os_ann (B p cb qb g : Nat) (t : TypeId) (lv : Value) (s' : BS) (f : Ed) (pins sc : Value) (cs cs' : Array Value) (ph : Int) (w : World) (hq : Blk w g t cs) (h2 : cs[2]? = some (.int .u8 ph)) (h3 : cs[3]? = some (.func (.func 72) #[.pointer (some ⟨g, 0, none⟩)] #[]))
    (hF : Calls Try.prog 72 #[.pointer (some ⟨g, 0, none⟩)] w (ERes B p cb qb g t lv f pins sc s' cs' w)) (h3' : cs'[3]? = some (.nilFunc)) :
    Calls Try.prog 61 #[.pointer (some ⟨g, 0, none⟩)] w (EStep B p cb qb g t lv f pins sc s' cs' ph true w) := by
  have hd : ∀ W : World, (binOp .eql 1 (.nilFunc) .nilFunc).run Try.prog W = .ok (.bool true) W := fun W => by kernel_rfl
  have a2 : w.cell? ⟨g, 2, none⟩ = some (.int .u8 ph) := (hq.cell 2).trans h2
  have a3 : w.cell? ⟨g, 3, none⟩ = some (.func (.func 72) #[.pointer (some ⟨g, 0, none⟩)] #[]) := (hq.cell 3).trans h3
  have hfn : ∀ W : World, (binOp .neq 1 (.func (.func 72) #[.pointer (some ⟨g, 0, none⟩)] #[]) .nilFunc).run Try.prog W = .ok (.bool true) W := fun W => by kernel_rfl
  have HF := hid hF
  have H3' := hid h3'
  clear hq h2 h3 hF h3'
  go_enter Try.func61, Try.ntmps61
  go_wp2_with fail
  refine HF.out.mono ?_
  rintro e w1 ⟨rfl, lv', hM, hB, hc, hf⟩
  have a3' : w1.cell? ⟨g, 3, none⟩ = some (.nilFunc) := (hB.cell 3).trans H3'.out
  have HM := hid hM
  have HB := hid hB
  have HC := hid hc
  have HFr := hid hf
  clear a2 a3 hM hB hc hf
  go_wp2_with fail
  go_quiet (fail)
  go_wp2_with fail
  go_ret2
  exact ⟨rfl, lv', HM.out.drewN nq, HB.out.drewN nq, HC.out.drewN nq, HFr.out⟩
set_option maxHeartbeats 400000 in
theorem os_looka (B p cb qb g : Nat) (t : TypeId) (lv : Value) (s' : BS) (f : Ed) (pins sc : Value) (cs cs' : Array Value) (ph : Int) (w : World) (hq : Blk w g t cs) (h2 : cs[2]? = some (.int .u8 ph)) (h3 : cs[3]? = some (.func (.func 73) #[.pointer (some ⟨g, 0, none⟩)] #[]))
    (hF : Calls Try.prog 73 #[.pointer (some ⟨g, 0, none⟩)] w (ERes B p cb qb g t lv f pins sc s' cs' w)) (h3' : cs'[3]? = some (.func (.func 73) #[.pointer (some ⟨g, 0, none⟩)] #[])) :
    Calls Try.prog 61 #[.pointer (some ⟨g, 0, none⟩)] w (EStep B p cb qb g t lv f pins sc s' cs' ph false w) := by
  have hd : ∀ W : World, (binOp .eql 1 (.func (.func 73) #[.pointer (some ⟨g, 0, none⟩)] #[]) .nilFunc).run Try.prog W = .ok (.bool false) W := fun W => by kernel_rfl
  have a2 : w.cell? ⟨g, 2, none⟩ = some (.int .u8 ph) := (hq.cell 2).trans h2
  have a3 : w.cell? ⟨g, 3, none⟩ = some (.func (.func 73) #[.pointer (some ⟨g, 0, none⟩)] #[]) := (hq.cell 3).trans h3
  have hfn : ∀ W : World, (binOp .neq 1 (.func (.func 73) #[.pointer (some ⟨g, 0, none⟩)] #[]) .nilFunc).run Try.prog W = .ok (.bool true) W := fun W => by kernel_rfl
  have HF := hid hF
  have H3' := hid h3'
  clear hq h2 h3 hF h3'
  go_enter Try.func61, Try.ntmps61
  go_wp2_with fail
  refine HF.out.mono ?_
  rintro e w1 ⟨rfl, lv', hM, hB, hc, hf⟩
  have a3' : w1.cell? ⟨g, 3, none⟩ = some (.func (.func 73) #[.pointer (some ⟨g, 0, none⟩)] #[]) := (hB.cell 3).trans H3'.out
  have HM := hid hM
  have HB := hid hB
  have HC := hid hc
  have HFr := hid hf
  clear a2 a3 hM hB hc hf
  go_wp2_with fail
  go_quiet (fail)
  go_wp2_with fail
  go_ret2
  exact ⟨rfl, lv', HM.out.drewN nq, HB.out.drewN nq, HC.out.drewN nq, HFr.out⟩
set_option maxHeartbeats 400000 in
theorem os_lookb (B p cb qb g : Nat) (t : TypeId) (lv : Value) (s' : BS) (f : Ed) (pins sc : Value) (cs cs' : Array Value) (ph : Int) (w : World) (hq : Blk w g t cs) (h2 : cs[2]? = some (.int .u8 ph)) (h3 : cs[3]? = some (.func (.func 73) #[.pointer (some ⟨g, 0, none⟩)] #[]))
    (hF : Calls Try.prog 73 #[.pointer (some ⟨g, 0, none⟩)] w (ERes B p cb qb g t lv f pins sc s' cs' w)) (h3' : cs'[3]? = some (.func (.func 74) #[.pointer (some ⟨g, 0, none⟩)] #[])) :
    Calls Try.prog 61 #[.pointer (some ⟨g, 0, none⟩)] w (EStep B p cb qb g t lv f pins sc s' cs' ph false w) := by
  have hd : ∀ W : World, (binOp .eql 1 (.func (.func 74) #[.pointer (some ⟨g, 0, none⟩)] #[]) .nilFunc).run Try.prog W = .ok (.bool false) W := fun W => by kernel_rfl
  have a2 : w.cell? ⟨g, 2, none⟩ = some (.int .u8 ph) := (hq.cell 2).trans h2
  have a3 : w.cell? ⟨g, 3, none⟩ = some (.func (.func 73) #[.pointer (some ⟨g, 0, none⟩)] #[]) := (hq.cell 3).trans h3
  have hfn : ∀ W : World, (binOp .neq 1 (.func (.func 73) #[.pointer (some ⟨g, 0, none⟩)] #[]) .nilFunc).run Try.prog W = .ok (.bool true) W := fun W => by kernel_rfl
  have HF := hid hF
  have H3' := hid h3'
  clear hq h2 h3 hF h3'
  go_enter Try.func61, Try.ntmps61
  go_wp2_with fail
  refine HF.out.mono ?_
  rintro e w1 ⟨rfl, lv', hM, hB, hc, hf⟩
  have a3' : w1.cell? ⟨g, 3, none⟩ = some (.func (.func 74) #[.pointer (some ⟨g, 0, none⟩)] #[]) := (hB.cell 3).trans H3'.out
  have HM := hid hM
  have HB := hid hB
  have HC := hid hc
  have HFr := hid hf
  clear a2 a3 hM hB hc hf
  go_wp2_with fail
  go_quiet (fail)
  go_wp2_with fail
  go_ret2
  exact ⟨rfl, lv', HM.out.drewN nq, HB.out.drewN nq, HC.out.drewN nq, HFr.out⟩
set_option maxHeartbeats 400000 in
theorem os_lookc (B p cb qb g : Nat) (t : TypeId) (lv : Value) (s' : BS) (f : Ed) (pins sc : Value) (cs cs' : Array Value) (ph : Int) (w : World) (hq : Blk w g t cs) (h2 : cs[2]? = some (.int .u8 ph)) (h3 : cs[3]? = some (.func (.func 73) #[.pointer (some ⟨g, 0, none⟩)] #[]))
    (hF : Calls Try.prog 73 #[.pointer (some ⟨g, 0, none⟩)] w (ERes B p cb qb g t lv f pins sc s' cs' w)) (h3' : cs'[3]? = some (.nilFunc)) :
    Calls Try.prog 61 #[.pointer (some ⟨g, 0, none⟩)] w (EStep B p cb qb g t lv f pins sc s' cs' ph true w) := by
  have hd : ∀ W : World, (binOp .eql 1 (.nilFunc) .nilFunc).run Try.prog W = .ok (.bool true) W := fun W => by kernel_rfl
  have a2 : w.cell? ⟨g, 2, none⟩ = some (.int .u8 ph) := (hq.cell 2).trans h2
  have a3 : w.cell? ⟨g, 3, none⟩ = some (.func (.func 73) #[.pointer (some ⟨g, 0, none⟩)] #[]) := (hq.cell 3).trans h3
  have hfn : ∀ W : World, (binOp .neq 1 (.func (.func 73) #[.pointer (some ⟨g, 0, none⟩)] #[]) .nilFunc).run Try.prog W = .ok (.bool true) W := fun W => by kernel_rfl
  have HF := hid hF
  have H3' := hid h3'
  clear hq h2 h3 hF h3'
  go_enter Try.func61, Try.ntmps61
  go_wp2_with fail
  refine HF.out.mono ?_
  rintro e w1 ⟨rfl, lv', hM, hB, hc, hf⟩
  have a3' : w1.cell? ⟨g, 3, none⟩ = some (.nilFunc) := (hB.cell 3).trans H3'.out
  have HM := hid hM
  have HB := hid hB
  have HC := hid hc
  have HFr := hid hf
  clear a2 a3 hM hB hc hf
  go_wp2_with fail
  go_quiet (fail)
  go_wp2_with fail
  go_ret2
  exact ⟨rfl, lv', HM.out.drewN nq, HB.out.drewN nq, HC.out.drewN nq, HFr.out⟩
set_option maxHeartbeats 400000 in
theorem os_bump (B p cb qb g : Nat) (t : TypeId) (lv : Value) (s' : BS) (f : Ed) (pins sc : Value) (cs cs' : Array Value) (ph : Int) (w : World) (hq : Blk w g t cs) (h2 : cs[2]? = some (.int .u8 ph)) (h3 : cs[3]? = some (.func (.func 74) #[.pointer (some ⟨g, 0, none⟩)] #[]))
    (hF : Calls Try.prog 74 #[.pointer (some ⟨g, 0, none⟩)] w (ERes B p cb qb g t lv f pins sc s' cs' w)) (h3' : cs'[3]? = some (.nilFunc)) :
    Calls Try.prog 61 #[.pointer (some ⟨g, 0, none⟩)] w (EStep B p cb qb g t lv f pins sc s' cs' ph true w) := by
  have hd : ∀ W : World, (binOp .eql 1 (.nilFunc) .nilFunc).run Try.prog W = .ok (.bool true) W := fun W => by kernel_rfl
  have a2 : w.cell? ⟨g, 2, none⟩ = some (.int .u8 ph) := (hq.cell 2).trans h2
  have a3 : w.cell? ⟨g, 3, none⟩ = some (.func (.func 74) #[.pointer (some ⟨g, 0, none⟩)] #[]) := (hq.cell 3).trans h3
  have hfn : ∀ W : World, (binOp .neq 1 (.func (.func 74) #[.pointer (some ⟨g, 0, none⟩)] #[]) .nilFunc).run Try.prog W = .ok (.bool true) W := fun W => by kernel_rfl
  have HF := hid hF
  have H3' := hid h3'
  clear hq h2 h3 hF h3'
  go_enter Try.func61, Try.ntmps61
  go_wp2_with fail
  refine HF.out.mono ?_
  rintro e w1 ⟨rfl, lv', hM, hB, hc, hf⟩
  have a3' : w1.cell? ⟨g, 3, none⟩ = some (.nilFunc) := (hB.cell 3).trans H3'.out
  have HM := hid hM
  have HB := hid hB
  have HC := hid hc
  have HFr := hid hf
  clear a2 a3 hM hB hc hf
  go_wp2_with fail
  go_quiet (fail)
  go_wp2_with fail
  go_ret2
  exact ⟨rfl, lv', HM.out.drewN nq, HB.out.drewN nq, HC.out.drewN nq, HFr.out⟩
set_option maxHeartbeats 400000 in
theorem os_idle (g : Nat) (t : TypeId) (cs : Array Value) (ph : Int) (w : World) (hq : Blk w g t cs) (h2 : cs[2]? = some (.int .u8 ph)) (h3 : cs[3]? = some .nilFunc) :
    Calls Try.prog 61 #[.pointer (some ⟨g, 0, none⟩)] w fun e w' => e = .returned (.tuple #[.int .u8 ph, .bool true]) ∧ ∃ n, w' = w.drewN n := by
  have a2 : w.cell? ⟨g, 2, none⟩ = some (.int .u8 ph) := (hq.cell 2).trans h2
  have a3 : w.cell? ⟨g, 3, none⟩ = some .nilFunc := (hq.cell 3).trans h3
  have hfn : ∀ W : World, (binOp .neq 1 .nilFunc .nilFunc).run Try.prog W = .ok (.bool false) W := fun W => by kernel_rfl
  have hfe : ∀ W : World, (binOp .eql 1 .nilFunc .nilFunc).run Try.prog W = .ok (.bool true) W := fun W => by kernel_rfl
  clear hq h2 h3
  go_enter Try.func61, Try.ntmps61
  go_wp2_with fail
  go_quiet (fail)
  go_wp2_with fail
  go_ret2
  exact ⟨rfl, _, rfl⟩

section
variable (B p cb qb g : Nat) (lv : Value) (s : BS) (f : Ed) (pins sc : Value) (q : Pn) (w : World) (h : EpochM B w p cb qb lv s f pins sc) (hq : Blk w g 117 (pnCells qb g q)) (ht : 0 ≤ q.t ∧ q.t < 16) (hlen : s.lg.length < 1000000) (hB : B ≤ w.heap.size)
include h hq ht hlen hB
set_option maxHeartbeats 400000 in
theorem pn_step9 (hph : q.ph = 9) : Calls Try.prog 23 #[.pointer (some ⟨g, 0, none⟩)] w (EStep B p cb qb g 117 lv f pins sc (s.load q.t f.ep) (pnCells qb g { q with seen := lk s.vs f.ep, ph := 10 }) q.ph false w) := by
  have C0 := os_load B p cb qb g 117 lv _ f pins sc (pnCells qb g q) (pnCells qb g { q with seen := lk s.vs f.ep, ph := 10 }) q.ph w hq rfl (by show some (pnDo g q.ph) = _; rw [hph]; rfl) (pn_load B p cb qb g lv s f pins sc q w h hq ht hlen hB) rfl
  have C := hid C0
  clear C0 hph
  try clear E
  try clear h1
  try clear h0
  go_enter Try.func23, Try.ntmps23
  go_wp2_with fail
  refine C.out.mono ?_
  rintro e w1 ⟨rfl, k⟩
  go_wp2_with fail
  go_ret2
  exact ⟨rfl, k⟩
set_option maxHeartbeats 400000 in
theorem pn_step10 (hph : q.ph = 10) (hs : q.slot < f.n) : Calls Try.prog 23 #[.pointer (some ⟨g, 0, none⟩)] w (EStep B p cb qb g 117 lv f pins sc (s.store q.t (f.slot q.slot : Nat) (w64 (q.seen + 1))) (pnCells qb g { q with ph := 0 }) q.ph true w) := by
  have C0 := os_ann B p cb qb g 117 lv _ f pins sc (pnCells qb g q) (pnCells qb g { q with ph := 0 }) q.ph w hq rfl (by show some (pnDo g q.ph) = _; rw [hph]; rfl) (pn_ann B p cb qb g lv s f pins sc q w h hq ht hlen hB hs) rfl
  have C := hid C0
  clear C0 hph
  try clear E
  try clear h1
  try clear h0
  go_enter Try.func23, Try.ntmps23
  go_wp2_with fail
  refine C.out.mono ?_
  rintro e w1 ⟨rfl, k⟩
  go_wp2_with fail
  go_ret2
  exact ⟨rfl, k⟩
set_option maxHeartbeats 400000 in
theorem pn_step0 (hph : q.ph = 0) : Calls Try.prog 23 #[.pointer (some ⟨g, 0, none⟩)] w (EStep B p cb qb g 117 lv f pins sc s (pnCells qb g q) q.ph true w) := by
  have C0 := os_idle g 117 (pnCells qb g q) q.ph w hq rfl (by show some (pnDo g q.ph) = _; rw [hph]; rfl)
  have C := hid C0
  have H := hid h
  have HQ := hid hq
  clear C0 h hq hph
  go_enter Try.func23, Try.ntmps23
  go_wp2_with fail
  refine C.out.mono ?_
  rintro e w1 ⟨rfl, n1, rfl⟩
  go_wp2_with fail
  go_ret2
  exact ⟨rfl, lv, H.out.drewN n1, HQ.out.drewN n1, (Ch.refl _ w).drewN n1, .inl rfl⟩
/-- A step of a pin. -/
theorem pn_step (hs : q.slot < f.n) (hph : q.ph = 0 ∨ q.ph = 9 ∨ q.ph = 10) : Calls Try.prog 23 #[.pointer (some ⟨g, 0, none⟩)] w (EStep B p cb qb g 117 lv f pins sc (pnstep s f q).1 (pnCells qb g (pnstep s f q).2) q.ph ((pnstep s f q).2.ph == 0) w) := by
  rcases hph with e | e | e
  · have : pnstep s f q = (s, q) := by unfold pnstep; rw [if_neg (by rw [e]; decide), if_neg (by rw [e]; decide)]
    rw [this]
    have := pn_step0 B p cb qb g lv s f pins sc q w h hq ht hlen hB e
    rw [show (q.ph == 0) = true by rw [e]; rfl]
    exact this
  · have : pnstep s f q = (s.load q.t f.ep, { q with seen := lk s.vs f.ep, ph := 10 }) := by unfold pnstep; rw [if_pos e]
    rw [this]
    exact pn_step9 B p cb qb g lv s f pins sc q w h hq ht hlen hB e
  · have : pnstep s f q = (s.store q.t (f.slot q.slot : Nat) (w64 (q.seen + 1)), { q with ph := 0 }) := by unfold pnstep; rw [if_neg (by rw [e]; decide), if_pos e]
    rw [this]
    exact pn_step10 B p cb qb g lv s f pins sc q w h hq ht hlen hB e hs
end

section
variable (B p cb qb g : Nat) (lv : Value) (s : BS) (f : Ed) (pins sc : Value) (q : Sn) (w : World) (h : EpochM B w p cb qb lv s f pins sc) (hq : Blk w g 124 (snCells qb g q)) (ht : 0 ≤ q.t ∧ q.t < 16) (hlen : s.lg.length < 1000000) (hB : B ≤ w.heap.size)
include h hq ht hlen hB
set_option maxHeartbeats 400000 in
theorem sn_st0a (hph : q.ph = 34) (hs : q.at' < f.n) (h0 : lk s.vs (f.slot q.at') = 0) (hb : q.at' + 1 < f.n) : Calls Try.prog 31 #[.pointer (some ⟨g, 0, none⟩)] w (EStep B p cb qb g 124 lv f pins sc (s.load q.t (f.slot q.at' : Nat)) (snCells qb g { q with at' := q.at' + 1, ph := 34 }) q.ph false w) := by
  have E : snBeg f { q with at' := q.at' + 1 } = { q with at' := q.at' + 1, ph := 34 } := by unfold snBeg; rw [if_pos hb]
  have CL := sn_look0 B p cb qb g lv s f pins sc q w h hq ht hlen hB hs h0
  rw [E] at CL
  have C0 := os_looka B p cb qb g 124 lv _ f pins sc (snCells qb g q) (snCells qb g { q with at' := q.at' + 1, ph := 34 }) q.ph w hq rfl (by show some (snDo g q.ph) = _; rw [hph]; rfl) (CL) rfl
  clear CL
  have C := hid C0
  clear C0 hph
  try clear E
  try clear h1
  try clear h0
  go_enter Try.func31, Try.ntmps31
  go_wp2_with fail
  refine C.out.mono ?_
  rintro e w1 ⟨rfl, k⟩
  go_wp2_with fail
  go_ret2
  exact ⟨rfl, k⟩
set_option maxHeartbeats 400000 in
theorem sn_st0b (hph : q.ph = 34) (hs : q.at' < f.n) (h0 : lk s.vs (f.slot q.at') = 0) (hb : ¬ q.at' + 1 < f.n) : Calls Try.prog 31 #[.pointer (some ⟨g, 0, none⟩)] w (EStep B p cb qb g 124 lv f pins sc (s.load q.t (f.slot q.at' : Nat)) (snCells qb g { q with at' := q.at' + 1, ph := 35 }) q.ph false w) := by
  have E : snBeg f { q with at' := q.at' + 1 } = { q with at' := q.at' + 1, ph := 35 } := by unfold snBeg; rw [if_neg hb]
  have CL := sn_look0 B p cb qb g lv s f pins sc q w h hq ht hlen hB hs h0
  rw [E] at CL
  have C0 := os_lookb B p cb qb g 124 lv _ f pins sc (snCells qb g q) (snCells qb g { q with at' := q.at' + 1, ph := 35 }) q.ph w hq rfl (by show some (snDo g q.ph) = _; rw [hph]; rfl) (CL) rfl
  clear CL
  have C := hid C0
  clear C0 hph
  try clear E
  try clear h1
  try clear h0
  go_enter Try.func31, Try.ntmps31
  go_wp2_with fail
  refine C.out.mono ?_
  rintro e w1 ⟨rfl, k⟩
  go_wp2_with fail
  go_ret2
  exact ⟨rfl, k⟩
set_option maxHeartbeats 400000 in
theorem sn_st1a (hph : q.ph = 34) (hs : q.at' < f.n) (h0 : lk s.vs (f.slot q.at') ≠ 0) (h1 : lk s.vs (f.slot q.at') = w64 (lk s.vs f.ep + 1)) (hb : q.at' + 1 < f.n) : Calls Try.prog 31 #[.pointer (some ⟨g, 0, none⟩)] w (EStep B p cb qb g 124 lv f pins sc (s.load q.t (f.slot q.at' : Nat)) (snCells qb g { q with at' := q.at' + 1, ph := 34 }) q.ph false w) := by
  have E : snBeg f { q with at' := q.at' + 1 } = { q with at' := q.at' + 1, ph := 34 } := by unfold snBeg; rw [if_pos hb]
  have CL := sn_look1 B p cb qb g lv s f pins sc q w h hq ht hlen hB hs h0 h1
  rw [E] at CL
  have C0 := os_looka B p cb qb g 124 lv _ f pins sc (snCells qb g q) (snCells qb g { q with at' := q.at' + 1, ph := 34 }) q.ph w hq rfl (by show some (snDo g q.ph) = _; rw [hph]; rfl) (CL) rfl
  clear CL
  have C := hid C0
  clear C0 hph
  try clear E
  try clear h1
  try clear h0
  go_enter Try.func31, Try.ntmps31
  go_wp2_with fail
  refine C.out.mono ?_
  rintro e w1 ⟨rfl, k⟩
  go_wp2_with fail
  go_ret2
  exact ⟨rfl, k⟩
set_option maxHeartbeats 400000 in
theorem sn_st1b (hph : q.ph = 34) (hs : q.at' < f.n) (h0 : lk s.vs (f.slot q.at') ≠ 0) (h1 : lk s.vs (f.slot q.at') = w64 (lk s.vs f.ep + 1)) (hb : ¬ q.at' + 1 < f.n) : Calls Try.prog 31 #[.pointer (some ⟨g, 0, none⟩)] w (EStep B p cb qb g 124 lv f pins sc (s.load q.t (f.slot q.at' : Nat)) (snCells qb g { q with at' := q.at' + 1, ph := 35 }) q.ph false w) := by
  have E : snBeg f { q with at' := q.at' + 1 } = { q with at' := q.at' + 1, ph := 35 } := by unfold snBeg; rw [if_neg hb]
  have CL := sn_look1 B p cb qb g lv s f pins sc q w h hq ht hlen hB hs h0 h1
  rw [E] at CL
  have C0 := os_lookb B p cb qb g 124 lv _ f pins sc (snCells qb g q) (snCells qb g { q with at' := q.at' + 1, ph := 35 }) q.ph w hq rfl (by show some (snDo g q.ph) = _; rw [hph]; rfl) (CL) rfl
  clear CL
  have C := hid C0
  clear C0 hph
  try clear E
  try clear h1
  try clear h0
  go_enter Try.func31, Try.ntmps31
  go_wp2_with fail
  refine C.out.mono ?_
  rintro e w1 ⟨rfl, k⟩
  go_wp2_with fail
  go_ret2
  exact ⟨rfl, k⟩
set_option maxHeartbeats 400000 in
theorem sn_st2 (hph : q.ph = 34) (hs : q.at' < f.n) (h0 : lk s.vs (f.slot q.at') ≠ 0) (h1 : lk s.vs (f.slot q.at') ≠ w64 (lk s.vs f.ep + 1)) : Calls Try.prog 31 #[.pointer (some ⟨g, 0, none⟩)] w (EStep B p cb qb g 124 lv f pins sc (s.load q.t (f.slot q.at' : Nat)) (snCells qb g { q with ph := 0 }) q.ph true w) := by
  have C0 := os_lookc B p cb qb g 124 lv _ f pins sc (snCells qb g q) (snCells qb g { q with ph := 0 }) q.ph w hq rfl (by show some (snDo g q.ph) = _; rw [hph]; rfl) (sn_look2 B p cb qb g lv s f pins sc q w h hq ht hlen hB hs h0 h1) rfl
  have C := hid C0
  clear C0 hph
  try clear E
  try clear h1
  try clear h0
  go_enter Try.func31, Try.ntmps31
  go_wp2_with fail
  refine C.out.mono ?_
  rintro e w1 ⟨rfl, k⟩
  go_wp2_with fail
  go_ret2
  exact ⟨rfl, k⟩
set_option maxHeartbeats 400000 in
theorem sn_st35 (hph : q.ph = 35) : Calls Try.prog 31 #[.pointer (some ⟨g, 0, none⟩)] w (EStep B p cb qb g 124 lv f pins sc (s.store q.t f.ep (w64 (lk s.vs f.ep + 1))) (snCells qb g { q with adv := true, ph := 0 }) q.ph true w) := by
  have C0 := os_bump B p cb qb g 124 lv _ f pins sc (snCells qb g q) (snCells qb g { q with adv := true, ph := 0 }) q.ph w hq rfl (by show some (snDo g q.ph) = _; rw [hph]; rfl) (sn_bump B p cb qb g lv s f pins sc q w h hq ht hlen hB) rfl
  have C := hid C0
  clear C0 hph
  try clear E
  try clear h1
  try clear h0
  go_enter Try.func31, Try.ntmps31
  go_wp2_with fail
  refine C.out.mono ?_
  rintro e w1 ⟨rfl, k⟩
  go_wp2_with fail
  go_ret2
  exact ⟨rfl, k⟩
set_option maxHeartbeats 400000 in
theorem sn_st00 (hph : q.ph = 0) : Calls Try.prog 31 #[.pointer (some ⟨g, 0, none⟩)] w (EStep B p cb qb g 124 lv f pins sc s (snCells qb g q) q.ph true w) := by
  have C0 := os_idle g 124 (snCells qb g q) q.ph w hq rfl (by show some (snDo g q.ph) = _; rw [hph]; rfl)
  have C := hid C0
  have H := hid h
  have HQ := hid hq
  clear C0 h hq hph
  go_enter Try.func31, Try.ntmps31
  go_wp2_with fail
  refine C.out.mono ?_
  rintro e w1 ⟨rfl, n1, rfl⟩
  go_wp2_with fail
  go_ret2
  exact ⟨rfl, lv, H.out.drewN n1, HQ.out.drewN n1, (Ch.refl _ w).drewN n1, .inl rfl⟩
/-- A step of a scan. -/
theorem sn_step (hph : q.ph = 0 ∨ (q.ph = 34 ∧ q.at' < f.n) ∨ q.ph = 35) : Calls Try.prog 31 #[.pointer (some ⟨g, 0, none⟩)] w (EStep B p cb qb g 124 lv f pins sc (snstep s f q).1 (snCells qb g (snstep s f q).2) q.ph ((snstep s f q).2.ph == 0) w) := by
  rcases hph with e | ⟨e, hs⟩ | e
  · have : snstep s f q = (s, q) := by unfold snstep; rw [if_neg (by rw [e]; decide), if_neg (by rw [e]; decide)]
    rw [this]
    have := sn_st00 B p cb qb g lv s f pins sc q w h hq ht hlen hB e
    rw [show (q.ph == 0) = true by rw [e]; rfl]
    exact this
  · by_cases h0 : lk s.vs (f.slot q.at') = 0
    · by_cases hb : q.at' + 1 < f.n
      · have : snstep s f q = (s.load q.t (f.slot q.at' : Nat), { q with at' := q.at' + 1, ph := 34 }) := by unfold snstep; rw [if_pos e, if_neg (fun c => c.1 h0), if_pos hb]
        rw [this]
        exact sn_st0a B p cb qb g lv s f pins sc q w h hq ht hlen hB e hs h0 hb
      · have : snstep s f q = (s.load q.t (f.slot q.at' : Nat), { q with at' := q.at' + 1, ph := 35 }) := by unfold snstep; rw [if_pos e, if_neg (fun c => c.1 h0), if_neg hb]
        rw [this]
        exact sn_st0b B p cb qb g lv s f pins sc q w h hq ht hlen hB e hs h0 hb
    · by_cases h1 : lk s.vs (f.slot q.at') = w64 (lk s.vs f.ep + 1)
      · by_cases hb : q.at' + 1 < f.n
        · have : snstep s f q = (s.load q.t (f.slot q.at' : Nat), { q with at' := q.at' + 1, ph := 34 }) := by unfold snstep; rw [if_pos e, if_neg (fun c => c.2 h1), if_pos hb]
          rw [this]
          exact sn_st1a B p cb qb g lv s f pins sc q w h hq ht hlen hB e hs h0 h1 hb
        · have : snstep s f q = (s.load q.t (f.slot q.at' : Nat), { q with at' := q.at' + 1, ph := 35 }) := by unfold snstep; rw [if_pos e, if_neg (fun c => c.2 h1), if_neg hb]
          rw [this]
          exact sn_st1b B p cb qb g lv s f pins sc q w h hq ht hlen hB e hs h0 h1 hb
      · have : snstep s f q = (s.load q.t (f.slot q.at' : Nat), { q with ph := 0 }) := by unfold snstep; rw [if_pos e, if_pos ⟨h0, h1⟩]
        rw [this]
        exact sn_st2 B p cb qb g lv s f pins sc q w h hq ht hlen hB e hs h0 h1
  · have : snstep s f q = (s.store q.t f.ep (w64 (lk s.vs f.ep + 1)), { q with adv := true, ph := 0 }) := by unfold snstep; rw [if_neg (by rw [e]; decide), if_pos e]
    rw [this]
    exact sn_st35 B p cb qb g lv s f pins sc q w h hq ht hlen hB e
end
end Go.Proofs.Ytokcodeeaneeaaa
