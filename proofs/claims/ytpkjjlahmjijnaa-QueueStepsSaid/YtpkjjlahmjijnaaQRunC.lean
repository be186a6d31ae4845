/- The queue: run. -/
import Derived.Test.YtpkjjlahmjijnaaQRunB
namespace Go.Proofs.Ytpkjjlahmjijnaa
open Go.RowKit
set_option linter.unusedVariables false
set_option linter.unusedSimpArgs false
set_option linter.unusedSectionVars false

def pullS : Option (Nat × Pl) → Value
  | none => .pointer none
  | some (g, q) => if q.fin = true then .pointer none else .pointer (some ⟨g, 0, none⟩)

/-- A run so far. -/
def RunSo (p cb qb X n M : Nat) (pu : Value) (w0 w : World) : Prop :=
  ∃ lv vp vv vs vo vr vl x gp gq, pu = pullS gq ∧ RunQ w0.heap.size p cb qb X n M lv vp vv vs vo vr vl x gp gq w0 w
theorem RunQ.mono {B p cb qb X n M M' : Nat} {lv vp vv vs vo vr vl : Value} {x : Xq} {gp : List (Nat × Pu)} {gq : Option (Nat × Pl)} {w0 w : World} (h : RunQ B p cb qb X n M lv vp vv vs vo vr vl x gp gq w0 w) (hM : M ≤ M') (h2 : M' ≤ 500000) : RunQ B p cb qb X n M' lv vp vv vs vo vr vl x gp gq w0 w :=
  ⟨h.mem, h.ps, h.inv, Nat.le_trans h.lg hM, Nat.le_trans h.pm hM, h.rm, h.sm, h.om, h2, h.pull⟩
/-- What run leaves. -/
def RunEnd (n : Nat) (w : World) (e : Ending) (w' : World) : Prop :=
  ∃ p cb qb X M lv vp vv vs vo vr vl x gp gq, e = .returned (.pointer (some ⟨X, 0, none⟩)) ∧ RunQ w.heap.size p cb qb X n M lv vp vv vs vo vr vl x gp gq w w'

theorem index_q16 (i : Int) (w : World) (hi : -9223372036854775808 ≤ i ∧ i < 9223372036854775808) (k : Nat) : Calls Try.prog 21 #[.int .i64 i, .int .i64 16] (w.drewN k) fun e w'' => e = .returned (.int .i64 (i % 16)) ∧ ∃ m, w'' = w.drewN m := index_q i 16 w hi (by omega) (by omega) k

section
variable {p cb qb X n M m : Nat} {lv vp vv vs vo vr vl : Value} {x : Xq} {gp : List (Nat × Pu)} {gq : Option (Nat × Pl)} {w w1 : World}
/-- A push was begun. -/
theorem RunQ.began (h : RunQ w.heap.size p cb qb X n M lv vp vv vs vo vr vl x gp gq w w1) (hM : M + 1 ≤ 500000) {g : Nat} {t : Int} (ht : 0 ≤ t ∧ t < 16) {u0 u1 u2 u3 : Value} {w' : World}
    (hm : Mem w.heap.size w (runL w.heap.size p cb qb X n lv u0 u1 u2 u3 vr vl (gp.length + 1) (gp.map Prod.fst ++ [g]) ((gp.map fun y => y.2.v) ++ [(gp.length : Int) + 1]) x.s (x.st ++ [0]) (x.ot ++ [0]) x.rs x.pl gq (gp ++ [(g, ⟨t, (gp.length : Int) + 1, 0, 0, 4, 0⟩)])) w') :
    RunQ w.heap.size p cb qb X n (M + 1) lv u0 u1 u2 u3 vr vl { x with ps := x.ps ++ [⟨t, (gp.length : Int) + 1, 0, 0, 4, 0⟩], st := x.st ++ [0], ot := x.ot ++ [0] } (gp ++ [(g, ⟨t, (gp.length : Int) + 1, 0, 0, 4, 0⟩)]) gq w w' := by
  have h2 := h.pm
  refine ⟨by simpa using hm, by simp [h.ps], inv_push h.inv t _ ht ⟨by omega, by omega⟩, by have := h.lg; show x.s.lg.length ≤ _; omega, by simp; omega, h.rm, fun k => ?_, fun k => ?_, hM, h.pull⟩
  · show lk (x.st ++ [0]) k ≤ _
    rcases Nat.lt_trichotomy k x.st.length with e | e | e
    · rw [lk_app_l e]; exact h.sm k
    · subst e; rw [lk_snoc]; exact Int.natCast_nonneg _
    · rw [lk_out (by simp; omega)]; exact Int.natCast_nonneg _
  · show lk (x.ot ++ [0]) k ≤ _
    rcases Nat.lt_trichotomy k x.ot.length with e | e | e
    · rw [lk_app_l e]; exact h.om k
    · subst e; rw [lk_snoc]; exact Int.natCast_nonneg _
    · rw [lk_out (by simp; omega)]; exact Int.natCast_nonneg _
/-- Whether a pull is in progress. -/
theorem RunQ.ways {vp vv vs vo vr vl : Value} (h : RunQ w.heap.size p cb qb X n M lv vp vv vs vo vr vl x gp gq w w1) : (pullS gq = .pointer none ∧ x.pull = none ∧ Rests w1 qb (pullV gq)) ∨ ∃ g q, gq = some (g, q) ∧ q.fin = false ∧ x.pull = some q ∧ pullS gq = .pointer (some ⟨g, 0, none⟩) := by
  have hp := h.pull
  have h8 := h.mem.each 8 _ rfl
  match gq, hp, h8 with
  | none, hp, _ => exact .inl ⟨rfl, hp, .inl rfl⟩
  | some (g, q), hp, h8 =>
    by_cases hf : q.fin = true
    · refine .inl ⟨by simp [pullS, hf], by rw [hp]; simp [hf], .inr ⟨g, q, rfl, h8, hf⟩⟩
    · refine .inr ⟨g, q, rfl, by simpa using hf, by rw [hp]; simp [hf], by simp [pullS, hf]⟩
theorem RunQ.pullBegan (h : RunQ w.heap.size p cb qb X n M lv vp vv vs vo vr vl x gp gq w w1) (hn : x.pull = none) {t : Int} (ht : 0 ≤ t ∧ t < 16) {w' : World} {e : Ending} (hb : PlBegun w.heap.size p cb qb lv x.s (lawQ n) ⟨t, qH x.s (lawQ n), 0, 19, 0, false⟩ w1 e w') :
    ∃ g q, e = .returned (.tuple #[.pointer (some ⟨g, 0, none⟩), .int .i64 0]) ∧ q.fin = false ∧ RunQ w.heap.size p cb qb X n M lv vp vv vs vo vr vl { x with pull := some q } gp (some (g, q)) w w' := by
  obtain ⟨g, rfl, hQ, hq, c, hg⟩ := hb
  have hH : qH x.s (lawQ n) = x.pl.length := h.inv.hH
  rw [hH] at hq
  refine ⟨g, ⟨t, x.pl.length, 0, 19, 0, false⟩, rfl, rfl, ?_, h.ps, inv_pull h.inv hn t ht, h.lg, h.pm, h.rm, h.sm, h.om, h.hM, rfl⟩
  exact h.mem.upd2 (i := 8) (j := 4) (pullR qb (some (g, ⟨t, x.pl.length, 0, 19, 0, false⟩))) (queueR w.heap.size p cb qb lv x.s (lawQ n) (.pointer (some ⟨g, 0, none⟩))) rfl rfl (by decide) c (fun k _ e => .inr (.inr e)) hq hQ (fun k hk => .inr (by rw [show k = g from hk]; exact hg)) (fun k hk => hk)
theorem Mem.pulled {B : Nat} {bl : List Nat} {vals st ot rs pl : List Int} {s s' : BS} {lv' : Value} {w0 w w' : World} {g : Nat} {q q' : Pl} (h : Mem B w0 (runL B p cb qb X n lv vp vv vs vo vr vl m bl vals s st ot rs pl (some (g, q)) gp) w) (hQ : QueueM B w' p cb qb lv' s' (lawQ n) (.pointer (some ⟨g, 0, none⟩))) (hq : Blk w' g 109 (plCells qb q'))
    (c : Ch (fun b => FP p cb lv b ∨ b = g) w w') (hf : Fresh w lv lv') : Mem B w0 (runL B p cb qb X n lv' vp vv vs vo vr vl m bl vals s' st ot rs pl (some (g, q')) gp) w' :=
  h.upd2 (i := 4) (j := 8) (queueR B p cb qb lv' s' (lawQ n) (.pointer (some ⟨g, 0, none⟩))) (pullR qb (some (g, q'))) rfl rfl (by decide) c (fun b _ hb => hb.imp (fun e => .inl e) id) hQ hq (fun b hb => by
    rcases hb with (e | e | e) | e
    · exact .inl (.inl (.inl e))
    · exact .inl (.inl (.inr (.inl e)))
    · rcases hf with e' | e'
      · exact .inl (.inl (.inr (.inr (by rw [← e']; exact e))))
      · exact .inr (e' b e)
    · exact .inl (.inr e)) (fun b hb => hb)
theorem RunQ.pclose (h : RunQ w.heap.size p cb qb X n M lv vp vv vs vo vr vl x gp gq w w1) {g : Nat} {q : Pl} (hx : x.pull = some q) (hM : M + 1 ≤ 500000) {lv' vl' : Value} {w' : World}
    (hm : Mem w.heap.size w (runL w.heap.size p cb qb X n lv' vp vv vs vo vr vl' gp.length (gp.map Prod.fst) (gp.map fun y => y.2.v) (plstep x.s (lawQ n) q).1 x.st x.ot x.rs (x.pulled n q).pl (some (g, (plstep x.s (lawQ n) q).2)) gp) w') :
    RunQ w.heap.size p cb qb X n (M + 1) lv' vp vv vs vo vr vl' (x.pulled n q) gp (some (g, (plstep x.s (lawQ n) q).2)) w w' := by
  have sh := inv_plstep h.inv hx (by have := h.rm; have := h.lg; have := h.hM; omega)
  have hl := sh.lg
  have h1 := h.lg
  have h2 := h.pm
  have h3 := h.rm
  have es : (x.pulled n q).s = (plstep x.s (lawQ n) q).1 := by unfold Xq.pulled; split <;> rfl
  have est : (x.pulled n q).st = x.st := by unfold Xq.pulled; split <;> rfl
  have eot : (x.pulled n q).ot = x.ot := by unfold Xq.pulled; split <;> rfl
  have ers : (x.pulled n q).rs = x.rs := by unfold Xq.pulled; split <;> rfl
  have eps : (x.pulled n q).ps = x.ps := by unfold Xq.pulled; split <;> rfl
  refine ⟨by rw [es, est, eot, ers]; exact hm, by rw [eps]; exact h.ps, sh.inv, by rw [es]; omega, by omega, by rw [es, ers]; omega, fun k => ?_, fun k => ?_, hM, ?_⟩
  · rw [es, est]; have := h.sm k; rw [hl]; push_cast; omega
  · rw [es, eot]; have := h.om k; rw [hl]; push_cast; omega
  · have hf := sh.fin
    unfold Xq.pulled
    by_cases hp : (plstep x.s (lawQ n) q).2.ph = 0
    · rw [if_pos hp]
      rw [decide_eq_true hp] at hf
      simp [hf]
    · rw [if_neg hp]
      rw [decide_eq_false hp] at hf
      simp [hf]
theorem pulled_pl0 {x : Xq} {q : Pl} (h : (plstep x.s (lawQ n) q).2.ph ≠ 0 ∨ (plstep x.s (lawQ n) q).2.er ≠ 0) : (x.pulled n q).pl = x.pl := by
  unfold Xq.pulled
  split
  · rename_i hp
    exact if_neg (h.resolve_left (fun e => e hp))
  · rfl
theorem pulled_pl1 {x : Xq} {q : Pl} (h1 : (plstep x.s (lawQ n) q).2.ph = 0) (h2 : (plstep x.s (lawQ n) q).2.er = 0) : (x.pulled n q).pl = x.pl ++ [(plstep x.s (lawQ n) q).2.got] := by
  unfold Xq.pulled
  rw [if_pos h1, if_pos h2]
theorem plRes_fin {q : Pl} (h : q.fin = true) : plRes q = (q.got, q.er) := if_pos h
end

set_option maxRecDepth 100000 in
set_option maxHeartbeats 8000000 in
theorem run_any (n : Nat) (hn1 : 1 ≤ n) (hn2 : n ≤ 6) (a : Option Addr) (len cap : Nat) (xs : List EvQ) (w : World) (he : InEvs w a len xs) (hl : len ≤ 200) : Calls Try.prog 27 #[.int .i64 n, .slice a len cap] w (RunEnd n w) := by
  have HE := hid he
  clear he
  go_enter Try.func27, Try.ntmps27
  go_wp2_with fail
  refine (begin_any n hn1 (by omega) w).mono ?_
  rintro e w1 ⟨p, cb, qb, X, rfl, hr0⟩
  have HR0 := hid hr0
  clear hr0
  go_wp2_with fail
  go_loopw [6, 7] (fun pu i wr => ∃ j : Nat, j ≤ len ∧ i = .int .i64 j ∧ RunSo p cb qb X n j pu w wr) (fun _ i _ => len - (intOf i).toNat)
  case atStart => exact ⟨0, Nat.zero_le _, rfl, _, _, _, _, _, _, _, _, _, _, rfl, HR0.out⟩
  case round =>
    obtain ⟨j, hj, rfl, lv, vp, vv, vs, vo, vr, vl, x, gp, gq, rfl, hR⟩ := hrel
    by_cases hlt : j < len
    · have hxl := HE.out.1
      obtain ⟨b, off, rfl, hbl, hcell⟩ := HE.out.2.2 (by omega)
      obtain ⟨ev, hev⟩ : ∃ ev, xs[j]? = some ev := ⟨_, List.getElem?_eq_getElem (by omega)⟩
      obtain ⟨ek1, ek2, ek3, ek4⟩ := HE.out.2.1 ev (List.mem_of_getElem? hev)
      have c0 := (hR.mem.bel.cell (p := ⟨b, off + j * 4, none⟩) hbl).trans (hcell j 0 ev _ hev rfl)
      have c1 := (hR.mem.bel.cell (p := ⟨b, off + j * 4 + 1, none⟩) hbl).trans (hcell j 1 ev _ hev rfl)
      have c3 := (hR.mem.bel.cell (p := ⟨b, off + j * 4 + 3, none⟩) hbl).trans (hcell j 3 ev _ hev rfl)
      obtain ⟨Ap, cp, hvp, hcp⟩ := own_slice (hR.mem.each 0 _ rfl)
      obtain ⟨Av, cv, hvv, hcv⟩ := own_slice (hR.mem.each 1 _ rfl)
      obtain ⟨As, cs, hvs, hcs⟩ := own_slice (hR.mem.each 2 _ rfl)
      obtain ⟨Ao, co, hvo, hco⟩ := own_slice (hR.mem.each 3 _ rfl)
      obtain ⟨Ar, cr, hvr, hcr⟩ := own_slice (hR.mem.each 6 _ rfl)
      obtain ⟨Al, cl, hvl, hcl⟩ := own_slice (hR.mem.each 7 _ rfl)
      subst hvp hvv hvs hvo hvr hvl
      have hpm := hR.pm
      have d1 : decide (j < len) = true := decide_eq_true hlt
      have H := hid hR
      have EK2 := hid ek2
      have EK4 := hid ek4
      have x1 : wr.cell? ⟨X, 1, none⟩ = some (.pointer (some ⟨qb, 0, none⟩)) := (hR.mem.each 5 _ rfl).cell 1
      have x2 : wr.cell? ⟨X, 2, none⟩ = some (.slice Ap gp.length cp) := (hR.mem.each 5 _ rfl).cell 2
      have x3 : wr.cell? ⟨X, 3, none⟩ = some (.slice Av gp.length cv) := (hR.mem.each 5 _ rfl).cell 3
      have x4 : wr.cell? ⟨X, 4, none⟩ = some (.slice As gp.length cs) := (hR.mem.each 5 _ rfl).cell 4
      have x5 : wr.cell? ⟨X, 5, none⟩ = some (.slice Ao gp.length co) := (hR.mem.each 5 _ rfl).cell 5
      clear hev hcell hR ek2 ek4 ek3
      by_cases h0 : ev.d % 4 = 0
      · have e0 : (ev.d % 4 == 0) = true := by rw [beq_iff_eq]; exact h0
        clear h0
        have t0 := Int.emod_nonneg ev.t (show (16 : Int) ≠ 0 by omega)
        have t1 := Int.emod_lt_of_pos ev.t (show (0 : Int) < (16 : Int) by omega)
        obtain ⟨t, ht⟩ : ∃ t, t = ev.t % 16 := ⟨_, rfl⟩
        rw [← ht] at t0 t1
        have HT := hid ht
        have hvne : (gp.length : Int) + 1 ≠ 0 := by omega
        clear ht
        go_wp2_with fail
        refine Mix.wp_region_mix (fun _ => True) (fun i => ([0, 0, 0, 0, 0, 0, 0, 0, 0, 0, 0, 2, 0, 0, 0, 0, 0] : List Nat).getD i 0) [0, 1, 2, 3, 4, 5, 6, 7, 8, 9, 10, 11, 12, 13, 14, 15, 16] (by kernel_rfl) (by kernel_rfl) ?_
        repeat (first | (refine Mix.mix_q (by simp only [List.getElem?_toArray, List.getElem?_cons_zero, List.getElem?_cons_succ]; exact rfl) rfl ?_; go_big_quiet_step ((go_at_call 21; exact index_q16 ev.t _ EK2.out _)); refine wpQuiet_nil ?_) | (refine Mix.mix_p (by simp only [List.getElem?_toArray, List.getElem?_cons_zero, List.getElem?_cons_succ]; exact rfl) rfl rfl ?_; go_big_quiet_step (fail); refine wpQuiet_nil ?_))
        refine Mix.mix_e (by simp only [List.getElem?_toArray, List.getElem?_cons_zero, List.getElem?_cons_succ]; exact rfl) rfl fun W hW => ?_
        obtain ⟨n1, rfl⟩ := hW
        go_wp2_with fail
        rw [← HT.out]
        refine (qpush_ok qb _ t ((gp.length : Int) + 1) ⟨t0, t1⟩ hvne).mono ?_
        rintro e w2 ⟨g, rfl, hq2, c2, hg2⟩
        have M2 := hid ((H.out.drewN n1).mem.newPush g ⟨t, (gp.length : Int) + 1, 0, 0, 4, 0⟩ c2 hq2 hg2)
        clear hq2 c2 hg2 x1 x2 x3 x4 x5 c0 c1 c3
        go_wp2_with fail
        repeat (first | (refine Mix.mix_q (by simp only [List.getElem?_toArray, List.getElem?_cons_zero, List.getElem?_cons_succ]; exact rfl) rfl ?_; go_big_quiet_step (fail); refine wpQuiet_nil ?_) | (refine Mix.mix_p (by simp only [List.getElem?_toArray, List.getElem?_cons_zero, List.getElem?_cons_succ]; exact rfl) rfl rfl ?_; go_big_quiet_step (fail); refine wpQuiet_nil ?_))
        intro n2
        go_wp2_with fail
        obtain ⟨S, hS⟩ : ∃ S : Nat → Prop, ∀ k, S k ↔ k = X := ⟨_, fun _ => Iff.rfl⟩
        have hSp : Mix.Has S X := (hS _).2 rfl
        have HS := hid hS
        clear hS
        refine Mix.wp_region_X S (fun i => ([1, 1, 1, 1, 1, 1, 1, 4, 1, 3, 3, 1, 1, 1, 4, 1, 3, 3, 1, 1, 1, 4, 3, 3, 1, 1, 1, 4, 3, 3, 0, 0, 2, 0, 0, 2, 0, 0, 2, 0, 0, 2] : List Nat).getD i 0) (by kernel_rfl) ?_
        refine Mix.wpX_world fun w5 hw5 => ?_
        have m5 := M2.out.drewN n2
        rw [← hw5] at m5
        have M5 := hid m5
        have x2 : w5.cell? ⟨X, 2, none⟩ = some (.slice Ap gp.length cp) := (m5.each 5 _ rfl).cell 2
        have x3 : w5.cell? ⟨X, 3, none⟩ = some (.slice Av gp.length cv) := (m5.each 5 _ rfl).cell 3
        have x4 : w5.cell? ⟨X, 4, none⟩ = some (.slice As gp.length cs) := (m5.each 5 _ rfl).cell 4
        have x5 : w5.cell? ⟨X, 5, none⟩ = some (.slice Ao gp.length co) := (m5.each 5 _ rfl).cell 5
        clear hw5 m5 M2
        refine Mix.wpX_prefix (fuel := 20) (by kernel_rfl) [0, 1, 2, 3, 4, 5, 6, 7, 8, 11, 12, 13, 14, 15, 18, 19, 20, 21, 24, 25, 26, 27] _ _ _ (by kernel_rfl) ?_
        repeat (first | (refine Mix.mix_q (by simp only [List.getElem?_toArray, List.getElem?_cons_zero, List.getElem?_cons_succ]; exact rfl) rfl ?_; go_big_quiet_step (fail); refine wpQuiet_nil ?_) | (refine Mix.mix_p (by simp only [List.getElem?_toArray, List.getElem?_cons_zero, List.getElem?_cons_succ]; exact rfl) rfl rfl ?_; go_big_quiet_step (fail); refine wpQuiet_nil ?_) | (refine Mix.mix_s (by simp only [List.getElem?_toArray, List.getElem?_cons_zero, List.getElem?_cons_succ]; exact rfl) rfl rfl ?_; go_big_quiet_step (fail); refine wpQuiet_nil ?_))
        intro f0
        refine Mix.wpX_world fun w6 hw6 => ?_
        have m6 := M5.out.drewN f0
        rw [← hw6] at m6
        have M6 := hid m6
        clear hw6 m6 M5 x2 x3 x4 x5
        obtain ⟨i0, hi, hz0, hz1, hz2⟩ := info_parts Try.infoU64
        obtain ⟨ip0, ip1, ip2, ip3, ip4⟩ := info_parts (show (Try.prog.info? 52).map (fun i => (i.zero, i.size, i.bytes)) = some (some (.pointer none), 1, 8) by kernel_rfl)
        obtain ⟨iu0, iu1, iu2, iu3, iu4⟩ := info_parts Try.infoU64
        obtain ⟨ii0, ii1, ii2, ii3, ii4⟩ := info_parts (show (Try.prog.info? 3).map (fun i => (i.zero, i.size, i.bytes)) = some (some (.int .i64 0), 1, 8) by kernel_rfl)
        have BW0 : ∀ W : World, (Instr.buildSlice 48 1 #[(0, .pointer (some ⟨g, 0, none⟩))]).run Try.prog W = .ok (.slice (some ⟨W.heap.size, 0, none⟩) 1 1) (W.alloc (.cells #[.pointer (some ⟨g, 0, none⟩)] 52)) := fun W => by go_simp
        have BW1 : ∀ W : World, (Instr.buildSlice 40 1 #[(0, .int .u64 ((gp.length : Int) + 1))]).run Try.prog W = .ok (.slice (some ⟨W.heap.size, 0, none⟩) 1 1) (W.alloc (.cells #[.int .u64 ((gp.length : Int) + 1)] 22)) := fun W => by go_simp
        have BW2 : ∀ W : World, (Instr.buildSlice 49 1 #[(0, .int .i64 0)]).run Try.prog W = .ok (.slice (some ⟨W.heap.size, 0, none⟩) 1 1) (W.alloc (.cells #[.int .i64 0] 3)) := fun W => by go_simp
        have BW3 := BW2
        refine Mix.wpX_apps (fuel := 12) w.heap.size (chainsQ (.slice Ap gp.length cp) (.slice Av gp.length cv) (.slice As gp.length cs) (.slice Ao gp.length co) gp.length (gp.map Prod.fst) (gp.map fun y => y.2.v) x.st x.ot g ((gp.length : Int) + 1) 9 10 94 95 16 17 101 102 22 23 107 108 28 29 113 114) _ w6 (by kernel_rfl) (by rfl) (fun k hk => ?_) (by show ([94, 95, 101, 102, 107, 108, 113, 114] : List Nat).Nodup; decide) ?_ (M6.out.toJ g _ _ _ _ _ _ _ _ _ _ _ _ _ _ _ _ _) ?_
        · refine ⟨by rw [(HS.out k).1 hk]; exact Blk.lt (M6.out.each 5 _ rfl), fun i c hc hb => ?_⟩
          obtain ⟨hi4, r, hr, rfl⟩ := chains_at (B := w.heap.size) (p := p) (cb := cb) (qb := qb) (X := X) (n := n) (lv := lv) (vr := .slice Ar x.rs.length cr) (vl := .slice Al x.pl.length cl) (s := x.s) (rs := x.rs) (pl := x.pl) (gq := gq) (gp := gp ++ [(g, ⟨t, (gp.length : Int) + 1, 0, 0, 4, 0⟩)]) hc
          exact M6.out.apart 5 i _ _ rfl hr (by omega) k ((HS.out k).1 hk) hb
        · intro i c hc
          have hi4 := (List.getElem?_eq_some_iff.1 hc).1
          match i, hi4, hc with
          | 0, _, hc =>
            obtain rfl := Option.some.inj hc
            exact ⟨⟨_, _, 48, rfl, rfl, rfl, rfl, rfl, rfl, BW0⟩, ⟨_, rfl, rfl, rfl, _, 48, ip0, _, 8, rfl, Try.underlying48, ip1, ip2, ip3, ip4, rfl, by show (gp.length + 1) * 8 ≤ _; omega, rfl, rfl⟩, Nat.le_of_ble_eq_true rfl, Nat.le_of_ble_eq_true rfl, rfl, by show gp.length + 1 ≤ maxLen; unfold maxLen; omega⟩
          | 1, _, hc =>
            obtain rfl := Option.some.inj hc
            exact ⟨⟨_, _, 40, rfl, rfl, rfl, rfl, rfl, rfl, BW1⟩, ⟨_, rfl, rfl, rfl, _, 40, iu0, _, 8, rfl, Try.underlying40, iu1, iu2, iu3, iu4, rfl, by show (gp.length + 1) * 8 ≤ _; omega, rfl, rfl⟩, Nat.le_of_ble_eq_true rfl, Nat.le_of_ble_eq_true rfl, rfl, by show gp.length + 1 ≤ maxLen; unfold maxLen; omega⟩
          | 2, _, hc =>
            obtain rfl := Option.some.inj hc
            exact ⟨⟨_, _, 49, rfl, rfl, rfl, rfl, rfl, rfl, BW2⟩, ⟨_, rfl, rfl, rfl, _, 49, ii0, _, 8, rfl, Try.underlying49, ii1, ii2, ii3, ii4, rfl, by show (gp.length + 1) * 8 ≤ _; omega, rfl, rfl⟩, Nat.le_of_ble_eq_true rfl, Nat.le_of_ble_eq_true rfl, rfl, by show gp.length + 1 ≤ maxLen; unfold maxLen; omega⟩
          | 3, _, hc =>
            obtain rfl := Option.some.inj hc
            exact ⟨⟨_, _, 49, rfl, rfl, rfl, rfl, rfl, rfl, BW3⟩, ⟨_, rfl, rfl, rfl, _, 49, ii0, _, 8, rfl, Try.underlying49, ii1, ii2, ii3, ii4, rfl, by show (gp.length + 1) * 8 ≤ _; omega, rfl, rfl⟩, Nat.le_of_ble_eq_true rfl, Nat.le_of_ble_eq_true rfl, rfl, by show gp.length + 1 ≤ maxLen; unfold maxLen; omega⟩
        · intro s UB UA w7 _ _ J
          have hM := fun j0 j1 j2 j3 => M6.out.stored4 J j0 j1 j2 j3
          have hX7 := (M6.out.rows4 J).each 5 _ rfl
          obtain ⟨A0, k0, e0, _⟩ := own_slice ((J.each 0 _ rfl).2.2 rfl)
          obtain ⟨A1, k1, e1, _⟩ := own_slice ((J.each 1 _ rfl).2.2 rfl)
          obtain ⟨A2, k2, e2, _⟩ := own_slice ((J.each 2 _ rfl).2.2 rfl)
          obtain ⟨A3, k3, e3, _⟩ := own_slice ((J.each 3 _ rfl).2.2 rfl)
          rw [e0, e1, e2, e3] at hM
          have HM := hid hM
          have x2 : w7.cell? ⟨X, 2, none⟩ = some (.slice Ap gp.length cp) := Blk.cell hX7 2
          have x3 : w7.cell? ⟨X, 3, none⟩ = some (.slice Av gp.length cv) := Blk.cell hX7 3
          have x4 : w7.cell? ⟨X, 4, none⟩ = some (.slice As gp.length cs) := Blk.cell hX7 4
          have x5 : w7.cell? ⟨X, 5, none⟩ = some (.slice Ao gp.length co) := Blk.cell hX7 5
          have fx2 := Blk.free hX7 2
          have fx3 := Blk.free hX7 3
          have fx4 := Blk.free hX7 4
          have fx5 := Blk.free hX7 5
          simp only [chainsQ, Mix.slotsOf, Mix.putL, Act.put, Nat.zero_add, Nat.reduceAdd, e0, e1, e2, e3, List.setIfInBounds_toArray, List.set_cons_succ, List.set_cons_zero]
          clear hM hX7 J e0 e1 e2 e3 BW0 BW1 BW2 BW3
          refine Mix.wpX_prefix (fuel := 0) (by kernel_rfl) [30, 31, 32, 33, 34, 35, 36, 37, 38, 39, 40, 41] _ _ _ (by kernel_rfl) ?_
          iterate 2 (refine Mix.mix_q (by simp only [List.getElem?_toArray, List.getElem?_cons_zero, List.getElem?_cons_succ]; exact rfl) rfl ?_; go_big_quiet_step (fail); refine wpQuiet_nil ?_)
          refine Mix.mix_e (by simp only [List.getElem?_toArray, List.getElem?_cons_zero, List.getElem?_cons_succ]; exact rfl) rfl fun Y0 hY0 => ?_
          obtain ⟨j0, rfl⟩ := hY0
          go_wp2_with fail
          iterate 2 (refine Mix.mix_q (by simp only [List.getElem?_toArray, List.getElem?_cons_zero, List.getElem?_cons_succ]; exact rfl) rfl ?_; go_big_quiet_step (fail); refine wpQuiet_nil ?_)
          refine Mix.mix_e (by simp only [List.getElem?_toArray, List.getElem?_cons_zero, List.getElem?_cons_succ]; exact rfl) rfl fun Y1 hY1 => ?_
          obtain ⟨j1, rfl⟩ := hY1
          go_wp2_with fail
          iterate 2 (refine Mix.mix_q (by simp only [List.getElem?_toArray, List.getElem?_cons_zero, List.getElem?_cons_succ]; exact rfl) rfl ?_; go_big_quiet_step (fail); refine wpQuiet_nil ?_)
          refine Mix.mix_e (by simp only [List.getElem?_toArray, List.getElem?_cons_zero, List.getElem?_cons_succ]; exact rfl) rfl fun Y2 hY2 => ?_
          obtain ⟨j2, rfl⟩ := hY2
          go_wp2_with fail
          iterate 2 (refine Mix.mix_q (by simp only [List.getElem?_toArray, List.getElem?_cons_zero, List.getElem?_cons_succ]; exact rfl) rfl ?_; go_big_quiet_step (fail); refine wpQuiet_nil ?_)
          refine Mix.mix_e (by simp only [List.getElem?_toArray, List.getElem?_cons_zero, List.getElem?_cons_succ]; exact rfl) rfl fun Y3 hY3 => ?_
          obtain ⟨j3, rfl⟩ := hY3
          go_wp2_with fail
          intro j4
          refine Mix.wpX_done (by kernel_rfl) ?_
          intro j5
          clear x2 x3 x4 x5 fx2 fx3 fx4 fx5
          go_wp2_with fail
          go_roundw
          case rel => exact ⟨j + 1, by omega, by go_num, _, _, _, _, _, _, _, _, _, _, rfl, H.out.began (by omega) ⟨t0, t1⟩ (by first | exact ((HM.out j0 j1 j2 j3).drewN j4).drewN j5 | exact (HM.out j0 j1 j2 j3).drewN (j4 + j5))⟩
          case measure => simp [intOf]; omega
      have e0 : (ev.d % 4 == 0) = false := by rw [beq_eq_false_iff_ne]; exact h0
      by_cases h1 : ev.d % 4 = 1
      · have e1 : (ev.d % 4 == 1) = true := by rw [beq_iff_eq]; exact h1
        clear h0 h1
        as_aux_lemma =>
          rcases H.out.ways with ⟨hS, hxn, hrest⟩ | ⟨g, q, rfl, hqf, hxp, hS⟩
          · rw [hS]
            have HREST := hid hrest
            have HXN := hid hxn
            clear hS hrest hxn x2 x3 x4 x5
            go_wp2_with fail
            clear c0 c1 c3
            refine (qpull_ok w.heap.size p cb qb lv x.s (lawQ n) (pullV gq) wr (H.out.mem.each 4 _ rfl) 15 ⟨by decide, by decide⟩ HREST.out).mono ?_
            rintro e w2 hb2
            obtain ⟨g, q, rfl, hqf, h2⟩ := H.out.pullBegan HXN.out ⟨by decide, by decide⟩ hb2
            have H2 := hid h2
            have HQF := hid hqf
            clear hb2 h2 hqf x1
            obtain ⟨b1, b2, b3, b4, b5⟩ := H2.out.inv.pull q rfl
            have SH := inv_plstep H2.out.inv rfl (by have := H2.out.rm; have := H2.out.lg; omega)
            have hph : q.ph = 0 ∨ q.ph = 19 ∨ q.ph = 20 ∨ q.ph = 21 := by
              rcases b5 with e | ⟨e | e, _⟩
              · exact .inr (.inl e)
              · exact .inr (.inr (.inl e))
              · exact .inr (.inr (.inr e))
            have hat : 0 ≤ q.at' ∧ q.at' < 18446744073709551616 := by
              have e1 := H2.out.inv.le
              have e2 := H2.out.rm
              have e3 := H2.out.lg
              have e4 : q.at' = (x.pl.length : Nat) := b1
              have e5 : x.pl.length ≤ x.rs.length := e1
              have e6 : x.rs.length ≤ x.s.lg.length := e2
              have e7 : x.s.lg.length ≤ j := e3
              omega
            have hlgj : x.s.lg.length ≤ j := H2.out.lg
            have hplj : x.pl.length ≤ x.rs.length := H2.out.inv.le
            have hrsj : x.rs.length ≤ x.s.lg.length := H2.out.rm
            have HPH := hid hph
            have HAT := hid hat
            have HB4 := hid b4
            have HSH := hid SH
            clear b1 b2 b3 b4 b5 hph hat SH
            have x0 : w2.cell? ⟨X, 0, none⟩ = some (.pointer (some ⟨p, 0, none⟩)) := (H2.out.mem.each 5 _ rfl).cell 0
            go_wp2_with fail
            refine (len_any w.heap.size p cb lv x.s w2 (show QueueM w.heap.size w2 p cb qb lv x.s (lawQ n) (.pointer (some ⟨g, 0, none⟩)) from H2.out.mem.each 4 _ rfl).b).mono ?_
            rintro e w' ⟨rfl, rfl⟩
            go_wp2_with fail
            refine (lstep_any w.heap.size p cb qb g lv x.s (lawQ n) (.pointer (some ⟨g, 0, none⟩)) q w2 (H2.out.mem.each 4 _ rfl) (H2.out.mem.each 8 _ rfl) HB4.out (by omega) H2.out.mem.bz HAT.out HPH.out).mono ?_
            rintro e w3 ⟨rfl, lv', hQ3, hq3, c3, f3⟩
            obtain ⟨o, ho⟩ : ∃ o, o = plstep x.s (lawQ n) q := ⟨_, rfl⟩
            rw [← ho] at hQ3 hq3 ⊢
            have m3 : Mem w.heap.size w (runL w.heap.size p cb qb X n lv' (.slice Ap gp.length cp) (.slice Av gp.length cv) (.slice As gp.length cs) (.slice Ao gp.length co) (.slice Ar x.rs.length cr) (.slice Al x.pl.length cl) gp.length (gp.map Prod.fst) (gp.map fun y => y.2.v) o.1 x.st x.ot x.rs x.pl (some (g, o.2)) gp) w3 := H2.out.mem.pulled hQ3 hq3 c3 f3
            have hlg3 : ((o.1.lg.length : Nat) : Int) = (x.s.lg.length : Int) + 1 := by rw [ho]; have := HSH.out.lg; exact (congrArg (fun k : Nat => (k : Int)) this).trans (by push_cast; rfl)
            have hfin3 : o.2.fin = decide (o.2.ph = 0) := by rw [ho]; exact HSH.out.fin
            have M3 := hid m3
            have HO := hid ho
            have HL3 := hid hlg3
            have HF3 := hid hfin3
            clear x0 hQ3 hq3 c3 f3 ho hlg3 hfin3
            have x0 : w3.cell? ⟨X, 0, none⟩ = some (.pointer (some ⟨p, 0, none⟩)) := (m3.each 5 _ rfl).cell 0
            have x8 : w3.cell? ⟨X, 8, none⟩ = some (.bool true) := (m3.each 5 _ rfl).cell 8
            have fx8 := Blk.free (m3.each 5 _ rfl) 8
            clear m3
            go_wp2_with fail
            refine (len_any w.heap.size p cb lv' o.1 w3 (show QueueM w.heap.size w3 p cb qb lv' o.1 (lawQ n) (.pointer (some ⟨g, 0, none⟩)) from M3.out.each 4 _ rfl).b).mono ?_
            rintro e w' ⟨rfl, rfl⟩
            rw [HL3.out]
            by_cases hd : o.2.ph = 0
            · have bd : (o.2.ph == 0) = true := by rw [beq_iff_eq]; exact hd
              have HD := hid hd
              have HFIN := hid (show o.2.fin = true by rw [HF3.out, decide_eq_true hd])
              have HPS := hid (show pullS (some (g, (plstep x.s (lawQ n) q).2)) = .pointer none by rw [← HO.out]; simp [pullS, HFIN.out])
              clear hd
              go_wp2_with fail
              refine calls_world fun W4 hW4 => ?_
              have m4 : Mem w.heap.size w (runL w.heap.size p cb qb X n lv' (.slice Ap gp.length cp) (.slice Av gp.length cv) (.slice As gp.length cs) (.slice Ao gp.length co) (.slice Ar x.rs.length cr) (.slice Al x.pl.length cl) gp.length (gp.map Prod.fst) (gp.map fun y => y.2.v) o.1 x.st x.ot x.rs x.pl (some (g, o.2)) gp) W4 := by rw [hW4]; exact M3.out.fine
              have M4 := hid m4
              clear hW4 x0 x8 fx8 m4
              refine (lres_any qb g W4 o.2 (M4.out.each 8 _ rfl)).mono ?_
              rintro e w' ⟨rfl, n4, rfl⟩
              rw [plRes_fin HFIN.out]
              have m5 := M4.out.drewN n4
              have M5 := hid m5
              have x1 : (W4.drewN n4).cell? ⟨X, 1, none⟩ = some (.pointer (some ⟨qb, 0, none⟩)) := (m5.each 5 _ rfl).cell 1
              have x7 : (W4.drewN n4).cell? ⟨X, 7, none⟩ = some (.slice Al x.pl.length cl) := (m5.each 5 _ rfl).cell 7
              clear m5
              by_cases her : o.2.er = 0
              · have be : (o.2.er == 0) = true := by rw [beq_iff_eq]; exact her
                have HER := hid her
                clear her
                obtain ⟨i0, hi, hz0, hz1, hz2⟩ := info_parts Try.infoU64
                have hown1 : (W4.drewN n4).ownsRow w.heap.size 22 1 (.slice Al x.pl.length cl) x.pl.length (u64V x.pl) := M5.out.each 7 _ rfl
                go_wp2_with (at_builtin; refine wpList_app _ rfl (.tmp 181) (.tmp 183) 40 rfl w.heap.size 22 i0 _ 1 8 Try.underlying40 hi hz0 hz1 hz2 rfl (by decide) _ _ _ rfl (hown1.alloc _) ⟨W4.heap.size, 0, none⟩ 1 1 [.int .u64 o.2.got] rfl rfl ?c1 ?c2 (by decide) ?c3 ?c4 ?c5 ?c6)
                case c1 => intro j' u hu; rw [addr_add0]; exact ((Blk.new (W4.drewN n4) 22 #[.int .u64 o.2.got]).cell j').trans (by simpa using hu)
                case c2 => intro u hu; simp at hu; subst hu; rfl
                case c3 => unfold maxLen; omega
                case c4 => omega
                case c5 => exact (M5.out.alloc _).bz
                case c6 =>
                  intro v' w6 hown' hgrow hfresh
                  obtain ⟨A6, c6, hv6, _⟩ := own_slice hown'
                  subst hv6
                  have t6 := (M5.out.alloc (.cells #[.int .u64 o.2.got] 22)).app (i := 7) (n' := (x.pl ++ [o.2.got]).length) (xs' := u64V (x.pl ++ [o.2.got])) rfl (by simpa [u64V] using hown') hgrow hfresh
                  have M7 := hid (t6.put (i := 5) rfl 7 (.slice A6 (x.pl.length + 1) c6))
                  have cX : w6.cell? ⟨X, 7, none⟩ = some (.slice Al x.pl.length cl) := Blk.cell (t6.each 5 _ rfl) 7
                  have fX := Blk.free (t6.each 5 _ rfl) 7
                  clear x1 x7 hown' hgrow hfresh t6
                  go_wp2_with fail
                  have epl : (({ x with pull := some q } : Xq).pulled n q).pl = x.pl ++ [o.2.got] := by rw [HO.out]; exact pulled_pl1 (by have := HD.out; rw [HO.out] at this; exact this) (by have := HER.out; rw [HO.out] at this; exact this)
                  have EPL := hid epl
                  clear epl cX fX
                  go_roundw
                  case rel => exact ⟨j + 1, by omega, by go_num, _, _, _, _, _, _, _, _, _, _, HPS.out.symm, H2.out.pclose (q := q) rfl (by omega) (g := g) (by rw [EPL.out, ← HO.out]; exact M7.out)⟩
                  case measure => simp [intOf]; omega
              · have be : (o.2.er == 0) = false := by rw [beq_eq_false_iff_ne]; exact her
                have hempty := (HSH.out.er (by rw [← HO.out]; exact HD.out)).resolve_left (by rw [← HO.out]; exact her)
                rw [← HO.out] at hempty
                obtain ⟨h17, hgot0, hvs0, hcell0⟩ := hempty
                have b17 : (o.2.er != 17) = false := by rw [bne_eq_false_iff_eq]; exact h17
                have epl : (({ x with pull := some q } : Xq).pulled n q).pl = x.pl := pulled_pl0 (.inr (by rw [← HO.out]; exact her))
                have hvso : o.1.vs = x.s.vs := by
                  rw [← hvs0]
                  have : (({ x with pull := some q } : Xq).pulled n q).s = o.1 := by rw [HO.out]; unfold Xq.pulled; split <;> rfl
                  rw [this]
                have hT : qT o.1 (lawQ n) = (x.rs.length : Nat) := by show lk o.1.vs 1 = _; rw [hvso]; exact H2.out.inv.hT
                have hH : qH o.1 (lawQ n) = (x.pl.length : Nat) := by show lk o.1.vs 0 = _; rw [hvso]; exact H2.out.inv.hH
                have hfirst : lk o.1.vs ((lawQ n).ent ((x.pl.length : Nat) : Int)) = 0 := by rw [ent_law, hvso]; exact hcell0
                have EPL := hid epl
                have HT := hid hT
                have HH := hid hH
                have HFI := hid hfirst
                clear her h17 hgot0 hvs0 hcell0 epl hvso hT hH hfirst
                go_wp2_with fail
                refine (qlist_any w.heap.size p cb qb lv' o.1 (lawQ n) (.pointer (some ⟨g, 0, none⟩)) _ (M5.out.each 4 _ rfl) x.pl.length x.rs.length HH.out HT.out hplj (by omega)).mono ?_
                rintro e w6 ⟨v, rfl, hrow, c6⟩
                have hql : (qlist o.1 (lawQ n)).length = x.rs.length - x.pl.length := by unfold qlist; rw [HH.out, HT.out]; simp
                rw [hql] at hrow
                obtain ⟨A6, k6, hv6, _⟩ := own_slice hrow
                subst hv6
                have M6 := hid (M5.out.keep c6)
                have PC := hid (fun wz => H2.out.pclose (q := q) rfl (by omega) (g := g) (lv' := lv') (vl' := .slice Al x.pl.length cl) (w' := wz))
                by_cases hz : x.rs.length - x.pl.length = 0
                · have d5 : decide ((0 : Int) < ((x.rs.length - x.pl.length : Nat) : Int)) = false := decide_eq_false (by omega)
                  have d5' : decide (0 < x.rs.length - x.pl.length) = false := decide_eq_false (by omega)
                  clear hrow hql c6 x1 x7
                  go_wp2_with fail
                  go_roundw
                  case rel => exact ⟨j + 1, by omega, by go_num, _, _, _, _, _, _, _, _, _, _, HPS.out.symm, PC.out _ (by rw [EPL.out, ← HO.out]; exact M6.out)⟩
                  case measure => simp [intOf]; omega
                · have d5 : decide ((0 : Int) < ((x.rs.length - x.pl.length : Nat) : Int)) = true := decide_eq_true (by omega)
                  have d5' : decide (0 < x.rs.length - x.pl.length) = true := decide_eq_true (by omega)
                  have hl0 : (qlist o.1 (lawQ n))[0]? = some 0 := by
                    unfold qlist
                    rw [HH.out, HT.out, show (((x.rs.length : Nat) : Int) - ((x.pl.length : Nat) : Int)).toNat = x.rs.length - x.pl.length by omega]
                    simp [show 0 < x.rs.length - x.pl.length by omega]
                    exact HFI.out
                  obtain ⟨g6, k7, e6, _, _, kc6, _⟩ := own_at hrow (k := 0) (u := .int .u64 0) (by simp [hl0])
                  injection e6 with e7
                  subst e7
                  clear hrow hql c6 hl0 x1 x7 hz
                  go_wp2_with fail
                  go_roundw
                  case rel => exact ⟨j + 1, by omega, by go_num, _, _, _, _, _, _, _, _, _, _, HPS.out.symm, PC.out _ (by rw [EPL.out, ← HO.out]; exact M6.out)⟩
                  case measure => simp [intOf]; omega
            · have bd : (o.2.ph == 0) = false := by rw [beq_eq_false_iff_ne]; exact hd
              have HFIN := hid (show o.2.fin = false by rw [HF3.out, decide_eq_false hd])
              have HPS := hid (show pullS (some (g, (plstep x.s (lawQ n) q).2)) = .pointer (some ⟨g, 0, none⟩) by rw [← HO.out]; simp [pullS, HFIN.out])
              have epl : (({ x with pull := some q } : Xq).pulled n q).pl = x.pl := pulled_pl0 (.inl (by rw [← HO.out]; exact hd))
              have EPL := hid epl
              clear hd epl
              go_wp2_with fail
              go_roundw
              case rel => exact ⟨j + 1, by omega, by go_num, _, _, _, _, _, _, _, _, _, _, HPS.out.symm, H2.out.pclose (q := q) rfl (by omega) (g := g) (by rw [EPL.out, ← HO.out]; exact M3.out.fine)⟩
              case measure => simp [intOf]; omega
          · rw [hS]
            have HXP := hid hxp
            have HQF := hid hqf
            clear hS hxp hqf x1 x2 x3 x4 x5
            obtain ⟨b1, b2, b3, b4, b5⟩ := H.out.inv.pull q HXP.out
            have SH := inv_plstep H.out.inv HXP.out (by have := H.out.rm; have := H.out.lg; omega)
            have hph : q.ph = 0 ∨ q.ph = 19 ∨ q.ph = 20 ∨ q.ph = 21 := by
              rcases b5 with e | ⟨e | e, _⟩
              · exact .inr (.inl e)
              · exact .inr (.inr (.inl e))
              · exact .inr (.inr (.inr e))
            have hat : 0 ≤ q.at' ∧ q.at' < 18446744073709551616 := by
              have e1 := H.out.inv.le
              have e2 := H.out.rm
              have e3 := H.out.lg
              have e4 : q.at' = (x.pl.length : Nat) := b1
              have e5 : x.pl.length ≤ x.rs.length := e1
              have e6 : x.rs.length ≤ x.s.lg.length := e2
              have e7 : x.s.lg.length ≤ j := e3
              omega
            have hlgj : x.s.lg.length ≤ j := H.out.lg
            have hplj : x.pl.length ≤ x.rs.length := H.out.inv.le
            have hrsj : x.rs.length ≤ x.s.lg.length := H.out.rm
            have HPH := hid hph
            have HAT := hid hat
            have HB4 := hid b4
            have HSH := hid SH
            clear b1 b2 b3 b4 b5 hph hat SH
            have x0 : wr.cell? ⟨X, 0, none⟩ = some (.pointer (some ⟨p, 0, none⟩)) := (H.out.mem.each 5 _ rfl).cell 0
            go_wp2_with fail
            clear c0 c1 c3
            refine (len_any w.heap.size p cb lv x.s wr (show QueueM w.heap.size wr p cb qb lv x.s (lawQ n) (.pointer (some ⟨g, 0, none⟩)) from H.out.mem.each 4 _ rfl).b).mono ?_
            rintro e w' ⟨rfl, rfl⟩
            go_wp2_with fail
            refine (lstep_any w.heap.size p cb qb g lv x.s (lawQ n) (.pointer (some ⟨g, 0, none⟩)) q wr (H.out.mem.each 4 _ rfl) (H.out.mem.each 8 _ rfl) HB4.out (by omega) H.out.mem.bz HAT.out HPH.out).mono ?_
            rintro e w3 ⟨rfl, lv', hQ3, hq3, c3, f3⟩
            obtain ⟨o, ho⟩ : ∃ o, o = plstep x.s (lawQ n) q := ⟨_, rfl⟩
            rw [← ho] at hQ3 hq3 ⊢
            have m3 : Mem w.heap.size w (runL w.heap.size p cb qb X n lv' (.slice Ap gp.length cp) (.slice Av gp.length cv) (.slice As gp.length cs) (.slice Ao gp.length co) (.slice Ar x.rs.length cr) (.slice Al x.pl.length cl) gp.length (gp.map Prod.fst) (gp.map fun y => y.2.v) o.1 x.st x.ot x.rs x.pl (some (g, o.2)) gp) w3 := H.out.mem.pulled hQ3 hq3 c3 f3
            have hlg3 : ((o.1.lg.length : Nat) : Int) = (x.s.lg.length : Int) + 1 := by rw [ho]; have := HSH.out.lg; exact (congrArg (fun k : Nat => (k : Int)) this).trans (by push_cast; rfl)
            have hfin3 : o.2.fin = decide (o.2.ph = 0) := by rw [ho]; exact HSH.out.fin
            have M3 := hid m3
            have HO := hid ho
            have HL3 := hid hlg3
            have HF3 := hid hfin3
            clear x0 hQ3 hq3 c3 f3 ho hlg3 hfin3
            have x0 : w3.cell? ⟨X, 0, none⟩ = some (.pointer (some ⟨p, 0, none⟩)) := (m3.each 5 _ rfl).cell 0
            have x8 : w3.cell? ⟨X, 8, none⟩ = some (.bool true) := (m3.each 5 _ rfl).cell 8
            have fx8 := Blk.free (m3.each 5 _ rfl) 8
            clear m3
            go_wp2_with fail
            refine (len_any w.heap.size p cb lv' o.1 w3 (show QueueM w.heap.size w3 p cb qb lv' o.1 (lawQ n) (.pointer (some ⟨g, 0, none⟩)) from M3.out.each 4 _ rfl).b).mono ?_
            rintro e w' ⟨rfl, rfl⟩
            rw [HL3.out]
            by_cases hd : o.2.ph = 0
            · have bd : (o.2.ph == 0) = true := by rw [beq_iff_eq]; exact hd
              have HD := hid hd
              have HFIN := hid (show o.2.fin = true by rw [HF3.out, decide_eq_true hd])
              have HPS := hid (show pullS (some (g, (plstep x.s (lawQ n) q).2)) = .pointer none by rw [← HO.out]; simp [pullS, HFIN.out])
              clear hd
              go_wp2_with fail
              refine calls_world fun W4 hW4 => ?_
              have m4 : Mem w.heap.size w (runL w.heap.size p cb qb X n lv' (.slice Ap gp.length cp) (.slice Av gp.length cv) (.slice As gp.length cs) (.slice Ao gp.length co) (.slice Ar x.rs.length cr) (.slice Al x.pl.length cl) gp.length (gp.map Prod.fst) (gp.map fun y => y.2.v) o.1 x.st x.ot x.rs x.pl (some (g, o.2)) gp) W4 := by rw [hW4]; exact M3.out.fine
              have M4 := hid m4
              clear hW4 x0 x8 fx8 m4
              refine (lres_any qb g W4 o.2 (M4.out.each 8 _ rfl)).mono ?_
              rintro e w' ⟨rfl, n4, rfl⟩
              rw [plRes_fin HFIN.out]
              have m5 := M4.out.drewN n4
              have M5 := hid m5
              have x1 : (W4.drewN n4).cell? ⟨X, 1, none⟩ = some (.pointer (some ⟨qb, 0, none⟩)) := (m5.each 5 _ rfl).cell 1
              have x7 : (W4.drewN n4).cell? ⟨X, 7, none⟩ = some (.slice Al x.pl.length cl) := (m5.each 5 _ rfl).cell 7
              clear m5
              by_cases her : o.2.er = 0
              · have be : (o.2.er == 0) = true := by rw [beq_iff_eq]; exact her
                have HER := hid her
                clear her
                obtain ⟨i0, hi, hz0, hz1, hz2⟩ := info_parts Try.infoU64
                have hown1 : (W4.drewN n4).ownsRow w.heap.size 22 1 (.slice Al x.pl.length cl) x.pl.length (u64V x.pl) := M5.out.each 7 _ rfl
                go_wp2_with (at_builtin; refine wpList_app _ rfl (.tmp 181) (.tmp 183) 40 rfl w.heap.size 22 i0 _ 1 8 Try.underlying40 hi hz0 hz1 hz2 rfl (by decide) _ _ _ rfl (hown1.alloc _) ⟨W4.heap.size, 0, none⟩ 1 1 [.int .u64 o.2.got] rfl rfl ?c1 ?c2 (by decide) ?c3 ?c4 ?c5 ?c6)
                case c1 => intro j' u hu; rw [addr_add0]; exact ((Blk.new (W4.drewN n4) 22 #[.int .u64 o.2.got]).cell j').trans (by simpa using hu)
                case c2 => intro u hu; simp at hu; subst hu; rfl
                case c3 => unfold maxLen; omega
                case c4 => omega
                case c5 => exact (M5.out.alloc _).bz
                case c6 =>
                  intro v' w6 hown' hgrow hfresh
                  obtain ⟨A6, c6, hv6, _⟩ := own_slice hown'
                  subst hv6
                  have t6 := (M5.out.alloc (.cells #[.int .u64 o.2.got] 22)).app (i := 7) (n' := (x.pl ++ [o.2.got]).length) (xs' := u64V (x.pl ++ [o.2.got])) rfl (by simpa [u64V] using hown') hgrow hfresh
                  have M7 := hid (t6.put (i := 5) rfl 7 (.slice A6 (x.pl.length + 1) c6))
                  have cX : w6.cell? ⟨X, 7, none⟩ = some (.slice Al x.pl.length cl) := Blk.cell (t6.each 5 _ rfl) 7
                  have fX := Blk.free (t6.each 5 _ rfl) 7
                  clear x1 x7 hown' hgrow hfresh t6
                  go_wp2_with fail
                  have epl : ((x : Xq).pulled n q).pl = x.pl ++ [o.2.got] := by rw [HO.out]; exact pulled_pl1 (by have := HD.out; rw [HO.out] at this; exact this) (by have := HER.out; rw [HO.out] at this; exact this)
                  have EPL := hid epl
                  clear epl cX fX
                  go_roundw
                  case rel => exact ⟨j + 1, by omega, by go_num, _, _, _, _, _, _, _, _, _, _, HPS.out.symm, H.out.pclose (q := q) HXP.out (by omega) (g := g) (by rw [EPL.out, ← HO.out]; exact M7.out)⟩
                  case measure => simp [intOf]; omega
              · have be : (o.2.er == 0) = false := by rw [beq_eq_false_iff_ne]; exact her
                have hempty := (HSH.out.er (by rw [← HO.out]; exact HD.out)).resolve_left (by rw [← HO.out]; exact her)
                rw [← HO.out] at hempty
                obtain ⟨h17, hgot0, hvs0, hcell0⟩ := hempty
                have b17 : (o.2.er != 17) = false := by rw [bne_eq_false_iff_eq]; exact h17
                have epl : ((x : Xq).pulled n q).pl = x.pl := pulled_pl0 (.inr (by rw [← HO.out]; exact her))
                have hvso : o.1.vs = x.s.vs := by
                  rw [← hvs0]
                  have : ((x : Xq).pulled n q).s = o.1 := by rw [HO.out]; unfold Xq.pulled; split <;> rfl
                  rw [this]
                have hT : qT o.1 (lawQ n) = (x.rs.length : Nat) := by show lk o.1.vs 1 = _; rw [hvso]; exact H.out.inv.hT
                have hH : qH o.1 (lawQ n) = (x.pl.length : Nat) := by show lk o.1.vs 0 = _; rw [hvso]; exact H.out.inv.hH
                have hfirst : lk o.1.vs ((lawQ n).ent ((x.pl.length : Nat) : Int)) = 0 := by rw [ent_law, hvso]; exact hcell0
                have EPL := hid epl
                have HT := hid hT
                have HH := hid hH
                have HFI := hid hfirst
                clear her h17 hgot0 hvs0 hcell0 epl hvso hT hH hfirst
                go_wp2_with fail
                refine (qlist_any w.heap.size p cb qb lv' o.1 (lawQ n) (.pointer (some ⟨g, 0, none⟩)) _ (M5.out.each 4 _ rfl) x.pl.length x.rs.length HH.out HT.out hplj (by omega)).mono ?_
                rintro e w6 ⟨v, rfl, hrow, c6⟩
                have hql : (qlist o.1 (lawQ n)).length = x.rs.length - x.pl.length := by unfold qlist; rw [HH.out, HT.out]; simp
                rw [hql] at hrow
                obtain ⟨A6, k6, hv6, _⟩ := own_slice hrow
                subst hv6
                have M6 := hid (M5.out.keep c6)
                have PC := hid (fun wz => H.out.pclose (q := q) HXP.out (by omega) (g := g) (lv' := lv') (vl' := .slice Al x.pl.length cl) (w' := wz))
                by_cases hz : x.rs.length - x.pl.length = 0
                · have d5 : decide ((0 : Int) < ((x.rs.length - x.pl.length : Nat) : Int)) = false := decide_eq_false (by omega)
                  have d5' : decide (0 < x.rs.length - x.pl.length) = false := decide_eq_false (by omega)
                  clear hrow hql c6 x1 x7
                  go_wp2_with fail
                  go_roundw
                  case rel => exact ⟨j + 1, by omega, by go_num, _, _, _, _, _, _, _, _, _, _, HPS.out.symm, PC.out _ (by rw [EPL.out, ← HO.out]; exact M6.out)⟩
                  case measure => simp [intOf]; omega
                · have d5 : decide ((0 : Int) < ((x.rs.length - x.pl.length : Nat) : Int)) = true := decide_eq_true (by omega)
                  have d5' : decide (0 < x.rs.length - x.pl.length) = true := decide_eq_true (by omega)
                  have hl0 : (qlist o.1 (lawQ n))[0]? = some 0 := by
                    unfold qlist
                    rw [HH.out, HT.out, show (((x.rs.length : Nat) : Int) - ((x.pl.length : Nat) : Int)).toNat = x.rs.length - x.pl.length by omega]
                    simp [show 0 < x.rs.length - x.pl.length by omega]
                    exact HFI.out
                  obtain ⟨g6, k7, e6, _, _, kc6, _⟩ := own_at hrow (k := 0) (u := .int .u64 0) (by simp [hl0])
                  injection e6 with e7
                  subst e7
                  clear hrow hql c6 hl0 x1 x7 hz
                  go_wp2_with fail
                  go_roundw
                  case rel => exact ⟨j + 1, by omega, by go_num, _, _, _, _, _, _, _, _, _, _, HPS.out.symm, PC.out _ (by rw [EPL.out, ← HO.out]; exact M6.out)⟩
                  case measure => simp [intOf]; omega
            · have bd : (o.2.ph == 0) = false := by rw [beq_eq_false_iff_ne]; exact hd
              have HFIN := hid (show o.2.fin = false by rw [HF3.out, decide_eq_false hd])
              have HPS := hid (show pullS (some (g, (plstep x.s (lawQ n) q).2)) = .pointer (some ⟨g, 0, none⟩) by rw [← HO.out]; simp [pullS, HFIN.out])
              have epl : ((x : Xq).pulled n q).pl = x.pl := pulled_pl0 (.inl (by rw [← HO.out]; exact hd))
              have EPL := hid epl
              clear hd epl
              go_wp2_with fail
              go_roundw
              case rel => exact ⟨j + 1, by omega, by go_num, _, _, _, _, _, _, _, _, _, _, HPS.out.symm, H.out.pclose (q := q) HXP.out (by omega) (g := g) (by rw [EPL.out, ← HO.out]; exact M3.out.fine)⟩
              case measure => simp [intOf]; omega
      have e1 : (ev.d % 4 == 1) = false := by rw [beq_eq_false_iff_ne]; exact h1
      clear h0 h1
      as_aux_lemma =>
        by_cases hm : gp.length = 0
        · have d2 : decide ((0 : Int) < (gp.length : Int)) = false := decide_eq_false (by omega)
          have d2' : decide (0 < gp.length) = false := decide_eq_false (by omega)
          have HM := hid hm
          clear hm
          go_wp2_with fail
          go_roundw
          case rel => exact ⟨j + 1, by omega, by go_num, _, _, _, _, _, _, _, _, _, _, rfl, H.out.mono (by omega) (by omega)⟩
          case measure => simp [intOf]; omega
        · have d2 : decide ((0 : Int) < (gp.length : Int)) = true := decide_eq_true (by omega)
          have d2' : decide (0 < gp.length) = true := decide_eq_true (by omega)
          have i0 := Int.emod_nonneg ev.w (show (gp.length : Int) ≠ 0 by omega)
          have i1 := Int.emod_lt_of_pos ev.w (show (0 : Int) < (gp.length : Int) by omega)
          obtain ⟨k, hk⟩ := Int.eq_ofNat_of_zero_le i0
          obtain ⟨⟨g, q⟩, hgk⟩ : ∃ y, gp[k]? = some y := ⟨_, List.getElem?_eq_getElem (by omega)⟩
          have HK := hid hk
          have HGK := hid hgk
          clear hk hgk i0 i1
          go_wp2_with fail
          refine Mix.wp_region_mix (fun _ => True) (fun i => ([0, 0, 0, 0, 0, 0, 0, 0, 0, 0, 0, 0, 0, 2] : List Nat).getD i 0) [0, 1, 2, 3, 4, 5, 6, 7, 8, 9, 10, 11, 12, 13] (by kernel_rfl) (by kernel_rfl) ?_
          repeat (first | (refine Mix.mix_q (by simp only [List.getElem?_toArray, List.getElem?_cons_zero, List.getElem?_cons_succ]; exact rfl) rfl ?_; go_big_quiet_step ((go_at_call 21; exact index_q ev.w gp.length _ EK4.out (by omega) (by omega) _)); refine wpQuiet_nil ?_) | (refine Mix.mix_p (by simp only [List.getElem?_toArray, List.getElem?_cons_zero, List.getElem?_cons_succ]; exact rfl) rfl rfl ?_; go_big_quiet_step (fail); refine wpQuiet_nil ?_))
          refine Mix.mix_e (by simp only [List.getElem?_toArray, List.getElem?_cons_zero, List.getElem?_cons_succ]; exact rfl) rfl fun W hW => ?_
          obtain ⟨n1, rfl⟩ := hW
          go_wp2_with fail
          rw [HK.out]
          by_cases hph : q.ph = 0
          · refine (rstep_idle (H.out.drewN n1) HGK.out hph).mono ?_
            rintro e w2 ⟨bb, rfl, h2⟩
            have H2 := hid h2
            clear h2 hph
            go_wp2_with fail
            intro n2
            go_wp2_with fail
            go_roundw
            case rel => exact ⟨j + 1, by omega, by go_num, _, _, _, _, _, _, _, _, _, _, rfl, (H2.out.drewN n2).mono (by omega) (by omega)⟩
            case measure => simp [intOf]; omega
          · refine (rstep_live (H.out.drewN n1) HGK.out hph (by omega)).mono ?_
            rintro e w2 ⟨bb, rfl, lv', vr', h2⟩
            have H2 := hid h2
            clear h2 hph
            go_wp2_with fail
            intro n2
            go_wp2_with fail
            go_roundw
            case rel => exact ⟨j + 1, by omega, by go_num, _, _, _, _, _, _, _, _, _, _, rfl, H2.out.drewN n2⟩
            case measure => simp [intOf]; omega
    · obtain rfl : j = len := by omega
      have d1 : decide (j < j) = false := decide_eq_false (by omega)
      go_wp2_with fail
      go_ret
      exact ⟨p, cb, qb, X, j, lv, vp, vv, vs, vo, vr, vl, x, gp, gq, rfl, hR⟩
end Go.Proofs.Ytpkjjlahmjijnaa
