/- CellLogs: the walk. -/
import Derived.Test.YtnoaeeiekblpbaaSteps
namespace Go.Proofs.Ytnoaeeiekblpbaa
open Go.RowKit
set_option linter.unusedVariables false

set_option maxRecDepth 100000 in
set_option maxHeartbeats 4000000 in
theorem logs_main (n : Nat) (hn1 : 1 ≤ n) (hn2 : n ≤ 64) (a : Option Addr) (nl cl : Nat) (xs : List StepD) (f : Int) (w : World) (hx : InSteps w a nl xs) (hl : nl ≤ 200) :
    Calls Try.prog 8 #[.int .i64 n, .slice a nl cl, .int .i64 f] w fun e w' => e = .returned (.bool true) ∧ Below w.heap.size w w' := by
  have hfew : decide (nl ≤ 200 ∧ ((n : Int) ≤ 64 ∨ (4096 : Int) < n)) = true := by simp; omega
  have d2 : decide (n < 1) = false := by simp; omega
  have d2i : decide ((n : Int) < 1) = false := by simp; omega
  have d3 : decide (64 < n) = false := by simp; omega
  have d3i : decide ((64 : Int) < (n : Int)) = false := by simp; omega
  go_enter Try.func8, Try.ntmps8
  go_wp2_with fail
  refine (few_any _ _ _ _ _).mono ?_
  rintro e w0 ⟨rfl, rfl⟩
  rw [hfew]
  clear hfew
  go_wp2_with fail
  clear d2 d2i d3 d3i
  refine (new_ok w.heap.size n hn1 (by omega) w (Nat.le_refl _)).mono ?_
  rintro e w1 ⟨p, cb, rfl, hbank, hc1, hp1, hcb1⟩
  have hbel1 := hc1.below (B := w.heap.size) (Nat.le_refl _) (fun _ h => h.elim)
  go_wp2_with fail
  refine (rnew_ok w.heap.size n hn1 (by omega) w1 hbel1.size).mono ?_
  rintro e w2 ⟨q, vb, rfl, hrbank, hc2, hq2, hvb2⟩
  have hbel2 := hbel1.trans (hc2.below hbel1.size (fun _ h => h.elim))
  have h2 : Two w.heap.size w2 p cb (.slice none 0 0) (runS n (xs.take 0)) q vb (.slice none 0 0) (runS n (xs.take 0)) :=
    ⟨hbank.ch hc2 id id (fun _ _ => id), hrbank, fun k hk => by simp [Value.ownBlock] at hk⟩
  clear hbank hrbank
  go_wp2_with fail
  go_loopw [11] (fun i wr => ∃ k : Nat, k ≤ nl ∧ i = .int .i64 k ∧ (∃ lv mv, Two w.heap.size wr p cb lv (runS n (xs.take k)) q vb mv (runS n (xs.take k))) ∧ Below w.heap.size w wr) (fun i _ => nl - (intOf i).toNat)
  case atStart => exact ⟨0, Nat.zero_le _, rfl, ⟨_, _, h2⟩, hbel2⟩
  case round =>
    clear h2 hbel1 hbel2 hc1 hc2
    obtain ⟨k, hk, rfl, ⟨lv, mv, hb⟩, hbel⟩ := hrel
    by_cases hlt : k < nl
    · obtain ⟨b, off, rfl, hbl, hcell⟩ := hx.2.2 (by omega)
      have hxl := hx.1
      obtain ⟨x, hxk⟩ : ∃ x, xs[k]? = some x := ⟨_, List.getElem?_eq_getElem (by omega)⟩
      have hok := hx.2.1 x (List.mem_of_getElem? hxk)
      have c0 := (hbel.cell (p := ⟨b, off + k * 5, none⟩) hbl).trans (hcell k 0 x _ hxk rfl)
      have c1 := (hbel.cell (p := ⟨b, off + k * 5 + 1, none⟩) hbl).trans (hcell k 1 x _ hxk rfl)
      have c2 := (hbel.cell (p := ⟨b, off + k * 5 + 2, none⟩) hbl).trans (hcell k 2 x _ hxk rfl)
      have c3 := (hbel.cell (p := ⟨b, off + k * 5 + 3, none⟩) hbl).trans (hcell k 3 x _ hxk rfl)
      have c4 := (hbel.cell (p := ⟨b, off + k * 5 + 4, none⟩) hbl).trans (hcell k 4 x _ hxk rfl)
      have hsn : runS n (xs.take (k + 1)) = (runS n (xs.take k)).step x := by
        rw [List.take_succ_eq_append_getElem (by omega), runS_snoc]
        rw [List.getElem?_eq_getElem (by omega)] at hxk
        rw [Option.some.inj hxk]
      have hlen : (runS n (xs.take k)).lg.length < 1000000 := by
        have := (runS_len n (xs.take k)).2
        have := List.length_take_le k xs
        omega
      have hlen3 := runS_len n (xs.take (k + 1))
      have hl3 := List.length_take_le (k + 1) xs
      clear hxk hcell hxl hx
      go_wp2_with fail
      refine (both_any w.heap.size p cb lv _ q vb mv x hok wr hb hlen hbel.size).mono ?_
      rintro e w3 ⟨rfl, ⟨lv3, mv3, h3⟩, hbel3⟩
      rw [← hsn] at h3
      obtain ⟨s, hs⟩ : ∃ s, s = runS n (xs.take (k + 1)) := ⟨_, rfl⟩
      rw [← hs] at h3 hlen3
      have hbel03 := hbel.trans hbel3
      have Hvn : Hid (s.vs.length < 1000000) := hid (by omega)
      have Hln : Hid (s.lg.length < 1000000) := hid (by omega)
      have hct : s.lg.length - cutAt f s.lg.length < 1000000 := by omega
      have H3 := hid h3
      have Hs := hid hs
      clear hb c0 c1 c2 c3 c4 hsn hlen h3 hs hbel hlen3 hl3
      go_wp2_with fail
      refine Mix.wp_region_mix (fun _ => True) (fun i => ([0, 0, 2, 1, 1, 2, 0, 0, 0, 0, 0, 0, 0, 0, 0, 0, 0, 0] : List Nat).getD i 0) [0, 1, 3, 4, 2, 5, 6, 7, 8, 9, 10, 11, 12, 13, 14, 15, 16, 17] (by kernel_rfl) (by kernel_rfl) ?_
      repeat (first | (refine Mix.mix_q (by simp only [List.getElem?_toArray, List.getElem?_cons_zero, List.getElem?_cons_succ]; exact rfl) rfl ?_; go_big_quiet_step (fail); refine wpQuiet_nil ?_) | (refine Mix.mix_p (by simp only [List.getElem?_toArray, List.getElem?_cons_zero, List.getElem?_cons_succ]; exact rfl) rfl rfl ?_; go_big_quiet_step (fail); refine wpQuiet_nil ?_) | (refine Mix.mix_s (by simp only [List.getElem?_toArray, List.getElem?_cons_zero, List.getElem?_cons_succ]; exact rfl) rfl rfl ?_; go_big_quiet_step (fail); refine wpQuiet_nil ?_))
      refine Mix.mix_e (by simp only [List.getElem?_toArray, List.getElem?_cons_zero, List.getElem?_cons_succ]; exact rfl) rfl fun W hW => ?_
      obtain ⟨n1, rfl⟩ := hW
      go_wp2_with fail
      have hc1 : Ch (fun _ => False) w3 (w3.drewN n1) := (Ch.refl _ _).drewN _
      refine (log_any w.heap.size p cb lv3 s f _ (H3.out.b.ch hc1 id id (fun _ _ => id)) Hln.out).mono ?_
      rintro e w4 ⟨gl, rfl, hlog, hc4, hgl⟩
      have hc34 := hc1.trans hc4 (fun _ _ h => h)
      have H4 := hid (H3.out.ch hc34)
      have Hl1 := hid (blk_accs hlog)
      clear hlog
      go_wp2_with fail
      refine Mix.mix_e (by simp only [List.getElem?_toArray, List.getElem?_cons_zero, List.getElem?_cons_succ]; exact rfl) rfl fun W hW => ?_
      obtain ⟨n2, rfl⟩ := hW
      go_wp2_with fail
      have hc45 : Ch (fun _ => False) w4 (w4.drewN n2) := (Ch.refl _ _).drewN _
      refine (rlog_any w.heap.size q vb mv3 s f _ (H4.out.ch hc45).r Hln.out).mono ?_
      rintro e w5 ⟨v5, rfl, hown5, hc5⟩
      have hc45' := hc45.trans hc5 (fun _ _ h => h)
      obtain ⟨A5, cap5, hv5, _, hin5⟩ := own_accs hown5
      subst hv5
      have hl1' := Hl1.out.ch hc45' (fun _ _ _ => id)
      rw [List.length_drop] at hl1' hin5 ⊢
      obtain ⟨dl, hdl⟩ : ∃ dl, dl = s.lg.drop (cutAt f s.lg.length) := ⟨_, rfl⟩
      obtain ⟨dn, hdn⟩ : ∃ dn, dn = s.lg.length - cutAt f s.lg.length := ⟨_, rfl⟩
      rw [← hdl, ← hdn] at hl1'
      rw [← hdl, ← hdn] at hin5
      rw [← hdn] at hct ⊢
      have Hl1 := hid hl1'
      have Hl2 := hid hin5
      have Hct := hid hct
      have hc35 := hc34.trans hc45' (fun _ _ h => h)
      have h5 := H3.out.ch hc35
      have hbel5 := hbel03.trans (hc35.below hbel03.size (fun _ h => h.elim))
      have hq1 := h5.r.hp.cell 1
      simp only [List.getElem?_toArray, List.getElem?_cons_zero, List.getElem?_cons_succ] at hq1
      obtain ⟨AL, capL, hmv, _, _⟩ := own_accs h5.r.hl
      subst hmv
      have H5 := hid h5
      clear hl1' hin5 hct h5 hown5 hdl hdn
      go_wp2_with fail
      repeat (first | (refine Mix.mix_q (by simp only [List.getElem?_toArray, List.getElem?_cons_zero, List.getElem?_cons_succ]; exact rfl) rfl ?_; go_big_quiet_step (exact eqAccs_q _ _ _ _ _ _ _ _ (Hl1.out) (Hl2.out) Hct.out _); refine wpQuiet_nil ?_) | (refine Mix.mix_q (by simp only [List.getElem?_toArray, List.getElem?_cons_zero, List.getElem?_cons_succ]; exact rfl) rfl ?_; go_big_quiet_step (exact len_q _ _ _ _ _ _ H5.out.b _); refine wpQuiet_nil ?_) | (refine Mix.mix_q (by simp only [List.getElem?_toArray, List.getElem?_cons_zero, List.getElem?_cons_succ]; exact rfl) rfl ?_; go_big_quiet_step (fail); refine wpQuiet_nil ?_) | (refine Mix.mix_p (by simp only [List.getElem?_toArray, List.getElem?_cons_zero, List.getElem?_cons_succ]; exact rfl) rfl rfl ?_; go_big_quiet_step (fail); refine wpQuiet_nil ?_) | (refine Mix.mix_s (by simp only [List.getElem?_toArray, List.getElem?_cons_zero, List.getElem?_cons_succ]; exact rfl) rfl rfl ?_; go_big_quiet_step (fail); refine wpQuiet_nil ?_))
      intro n3
      go_wp2_with fail
      refine calls_world fun W6 hW6 => ?_
      have c56 : Ch (fun _ => False) w5 W6 := by rw [hW6]; exact (Ch.refl _ _).drewN _
      clear hW6 hq1
      have hbel6 := hbel5.trans (c56.below hbel5.size (fun _ h => h.elim))
      have h6 := H5.out.ch c56
      have hq0 := h6.r.hp.cell 0
      simp only [List.getElem?_toArray, List.getElem?_cons_zero, List.getElem?_cons_succ] at hq0
      have H6 := hid h6
      clear h6
      refine (peek_any _ _ _ _ _ _ _ H6.out.b).mono ?_
      rintro e w7 ⟨rfl, rfl⟩
      go_wp2_with fail
      refine (rpeek_any _ _ _ _ _ _ _ H6.out.r).mono ?_
      rintro e w7 ⟨rfl, rfl⟩
      obtain ⟨S, hS⟩ : ∃ S : Nat → Prop, ∀ k, S k ↔ k = q := ⟨_, fun _ => Iff.rfl⟩
      have hSp : Mix.Has S q := (hS _).2 rfl
      have HS := hid hS
      clear hS
      go_wp2_with fail
      refine Mix.wp_region_mix S (fun i => ([0, 0, 0, 0, 0, 0, 0, 0, 0, 0, 3, 1, 1, 1, 4, 0, 0, 0] : List Nat).getD i 0) [0, 1, 2, 3, 4, 5, 6, 7, 8, 9, 11, 12, 13, 14, 10, 15, 16, 17] (by kernel_rfl) (by kernel_rfl) ?_
      repeat (first | (refine Mix.mix_q (by simp only [List.getElem?_toArray, List.getElem?_cons_zero, List.getElem?_cons_succ]; exact rfl) rfl ?_; go_big_quiet_step (fail); refine wpQuiet_nil ?_) | (refine Mix.mix_p (by simp only [List.getElem?_toArray, List.getElem?_cons_zero, List.getElem?_cons_succ]; exact rfl) rfl rfl ?_; go_big_quiet_step (fail); refine wpQuiet_nil ?_) | (refine Mix.mix_s (by simp only [List.getElem?_toArray, List.getElem?_cons_zero, List.getElem?_cons_succ]; exact rfl) rfl rfl ?_; go_big_quiet_step (fail); refine wpQuiet_nil ?_))
      refine Mix.mix_a (by simp only [List.getElem?_toArray, List.getElem?_cons_zero, List.getElem?_cons_succ]; exact rfl) rfl fun W hW => ?_
      obtain ⟨n4, rfl⟩ := hW
      go_wp2_with fail
      have hc6 : Ch (fun _ => False) W6 (W6.drewN n4) := (Ch.refl _ _).drewN _
      refine (values_any w.heap.size p cb lv3 s _ (H6.out.b.ch hc6 id id (fun _ _ => id))).mono ?_
      rintro e w9 ⟨gv, rfl, hval, hc9, hgv⟩
      have hc69 := hc6.trans hc9 (fun _ _ h => h)
      have H9 := hid (H6.out.ch hc69)
      have hbel9 := hbel6.trans (hc69.below hbel6.size (fun _ h => h.elim))
      have Hval := hid hval
      have hkeep : Mix.Keep S W6 w9 := fun j hj => by rw [(HS.out j).1 hj]; exact hc69.block q H6.out.r.hp.lt id
      clear hval hq0
      go_wp2_with fail
      refine ⟨hkeep, ?_⟩
      repeat (first | (refine Mix.mix_q (by simp only [List.getElem?_toArray, List.getElem?_cons_zero, List.getElem?_cons_succ]; exact rfl) rfl ?_; go_big_quiet_step (exact eqWords_q _ _ _ _ _ _ _ _ (bwords Hval.out) (bwords H9.out.r.hc) Hvn.out _); refine wpQuiet_nil ?_) | (refine Mix.mix_q (by simp only [List.getElem?_toArray, List.getElem?_cons_zero, List.getElem?_cons_succ]; exact rfl) rfl ?_; go_big_quiet_step (fail); refine wpQuiet_nil ?_) | (refine Mix.mix_p (by simp only [List.getElem?_toArray, List.getElem?_cons_zero, List.getElem?_cons_succ]; exact rfl) rfl rfl ?_; go_big_quiet_step (fail); refine wpQuiet_nil ?_) | (refine Mix.mix_s (by simp only [List.getElem?_toArray, List.getElem?_cons_zero, List.getElem?_cons_succ]; exact rfl) rfl rfl ?_; go_big_quiet_step (fail); refine wpQuiet_nil ?_))
      intro n5
      go_wp2_with fail
      go_roundw
      case rel => exact ⟨k + 1, by omega, by go_num, ⟨lv3, _, by rw [← Hs.out]; exact H9.out.ch ((Ch.refl (fun _ => False) w9).drewN n5)⟩, hbel9.trans (((Ch.refl (fun _ => False) _).drewN _).below hbel9.size (fun _ h => h.elim))⟩
      case measure => simp [intOf]; omega
    · have hkn : k = nl := by omega
      subst hkn
      obtain ⟨s, hs⟩ : ∃ s, s = runS n (xs.take k) := ⟨_, rfl⟩
      have hlen := runS_len n (xs.take k)
      rw [← hs] at hb hlen
      have hxl := hx.1
      have hl2 := List.length_take_le k xs
      clear hs hx
      have hq1 := hb.r.hp.cell 1
      simp only [List.getElem?_toArray, List.getElem?_cons_zero, List.getElem?_cons_succ] at hq1
      obtain ⟨AL, capL, hmv, _, hra⟩ := own_accs hb.r.hl
      subst hmv
      obtain ⟨S, hS⟩ : ∃ S : Nat → Prop, ∀ k, S k ↔ k = q := ⟨_, fun _ => Iff.rfl⟩
      have hSp : Mix.Has S q := (hS _).2 rfl
      have HS := hid hS
      have Hln : Hid (s.lg.length < 1000000) := hid (by omega)
      have Hra := hid hra
      have H0 := hid hb
      clear hS hra hlen hb hxl hl2
      go_wp2_with fail
      refine Mix.wp_region_mix S (fun i => ([0, 3, 1, 1, 1, 4, 0, 0] : List Nat).getD i 0) [0, 2, 3, 4, 5, 1, 6, 7] (by kernel_rfl) (by kernel_rfl) ?_
      repeat (first | (refine Mix.mix_q (by simp only [List.getElem?_toArray, List.getElem?_cons_zero, List.getElem?_cons_succ]; exact rfl) rfl ?_; go_big_quiet_step (fail); refine wpQuiet_nil ?_) | (refine Mix.mix_p (by simp only [List.getElem?_toArray, List.getElem?_cons_zero, List.getElem?_cons_succ]; exact rfl) rfl rfl ?_; go_big_quiet_step (fail); refine wpQuiet_nil ?_) | (refine Mix.mix_s (by simp only [List.getElem?_toArray, List.getElem?_cons_zero, List.getElem?_cons_succ]; exact rfl) rfl rfl ?_; go_big_quiet_step (fail); refine wpQuiet_nil ?_))
      refine Mix.mix_a (by simp only [List.getElem?_toArray, List.getElem?_cons_zero, List.getElem?_cons_succ]; exact rfl) rfl fun W hW => ?_
      obtain ⟨n1, rfl⟩ := hW
      go_wp2_with fail
      have hc4 : Ch (fun _ => False) wr (wr.drewN n1) := (Ch.refl _ _).drewN _
      refine (log_any w.heap.size p cb lv s 0 _ (H0.out.b.ch hc4 id id (fun _ _ => id)) Hln.out).mono ?_
      rintro e w4 ⟨gl, rfl, hlog, hc4', hgl⟩
      have hcut : cutAt 0 s.lg.length = 0 := by simp [cutAt]
      rw [hcut, List.drop_zero] at hlog ⊢
      have hc34 := hc4.trans hc4' (fun _ _ h => h)
      have hbel4 : Below w.heap.size w w4 := hbel.trans (hc34.below hbel.size (fun _ h => h.elim))
      have hkeep2 : Mix.Keep S wr w4 := fun j hj => by rw [(HS.out j).1 hj]; exact hc34.block q H0.out.r.hp.lt id
      have Hlog := hid hlog
      have Hc5 := hid hc34
      clear hlog hcut
      go_wp2_with fail
      refine ⟨hkeep2, ?_⟩
      repeat (first | (refine Mix.mix_q (by simp only [List.getElem?_toArray, List.getElem?_cons_zero, List.getElem?_cons_succ]; exact rfl) rfl ?_; go_big_quiet_step (exact eqAccs_q _ _ _ _ _ _ _ _ (blk_accs Hlog.out) (Hra.out.ch Hc5.out (fun _ _ _ => id)) Hln.out _); refine wpQuiet_nil ?_) | (refine Mix.mix_q (by simp only [List.getElem?_toArray, List.getElem?_cons_zero, List.getElem?_cons_succ]; exact rfl) rfl ?_; go_big_quiet_step (fail); refine wpQuiet_nil ?_) | (refine Mix.mix_p (by simp only [List.getElem?_toArray, List.getElem?_cons_zero, List.getElem?_cons_succ]; exact rfl) rfl rfl ?_; go_big_quiet_step (fail); refine wpQuiet_nil ?_) | (refine Mix.mix_s (by simp only [List.getElem?_toArray, List.getElem?_cons_zero, List.getElem?_cons_succ]; exact rfl) rfl rfl ?_; go_big_quiet_step (fail); refine wpQuiet_nil ?_))
      intro n3
      go_wp2_with fail
      go_ret
      exact ⟨by first | rfl | simp, hbel4.trans (((Ch.refl (fun _ => False) _).drewN _).below hbel4.size (fun _ h => h.elim))⟩

set_option maxHeartbeats 400000 in
theorem logs_walk (n : Int) (a : Option Addr) (nl cl : Nat) (ls : List (List Value)) (f : Int) (w : World) (hn : (Lit.int .i64 n).wf = true) (hx : InRows stepKs w a nl ls) (hf : (Lit.int .i64 f).wf = true) :
    Calls Try.prog 8 #[.int .i64 n, .slice a nl cl, .int .i64 f] w fun e w' => e = .returned (.bool true) ∧ Below w.heap.size w w' := by
  obtain ⟨xs, hx⟩ := in_steps hx
  by_cases hf : nl ≤ 200 ∧ (n ≤ 64 ∨ 4096 < n)
  · have hfew : decide (nl ≤ 200 ∧ (n ≤ 64 ∨ 4096 < n)) = true := decide_eq_true hf
    by_cases hb : n < 1
    · go_enter Try.func8, Try.ntmps8
      go_wp2_with fail
      refine (few_any _ _ _ _ _).mono ?_
      rintro e w0 ⟨rfl, rfl⟩
      rw [hfew]
      clear hfew
      go_wp2_with fail
      go_ret
      exact ⟨rfl, Below.refl _ _⟩
    · by_cases hb2 : 64 < n
      · go_enter Try.func8, Try.ntmps8
        go_wp2_with fail
        refine (few_any _ _ _ _ _).mono ?_
        rintro e w0 ⟨rfl, rfl⟩
        rw [hfew]
        clear hfew
        go_wp2_with fail
        go_ret
        exact ⟨rfl, Below.refl _ _⟩
      · obtain ⟨n, rfl⟩ := Int.eq_ofNat_of_zero_le (by omega : 0 ≤ n)
        exact logs_main n (by omega) (by omega) a nl cl xs f w hx hf.1
  · have hfew : decide (nl ≤ 200 ∧ (n ≤ 64 ∨ 4096 < n)) = false := decide_eq_false hf
    go_enter Try.func8, Try.ntmps8
    go_wp2_with fail
    refine (few_any _ _ _ _ _).mono ?_
    rintro e w0 ⟨rfl, rfl⟩
    rw [hfew]
    clear hfew
    go_wp2_with fail
    go_ret
    exact ⟨rfl, Below.refl _ _⟩
end Go.Proofs.Ytnoaeeiekblpbaa
