/- CellSteps: the walk. -/
import Derived.Test.YtnoaeeiekblpbaaBothB
import Derived.Test.YtnoaeeiekblpbaaCellF
namespace Go.Proofs.Ytnoaeeiekblpbaa
open Go.RowKit
set_option linter.unusedVariables false

theorem eqWords_q (a b : Option Addr) (n ca m cb : Nat) (xs : List Int) (w : World) (ha : SameWords w a n xs) (hb : SameWords w b m xs) (hn : n < 1000000) (k : Nat) :
    Calls Try.prog 14 #[.slice a n ca, .slice b m cb] (w.drewN k) fun e w'' => e = .returned (.bool true) ∧ ∃ m, w'' = w.drewN m :=
  Calls.quiet_of ((eqWords_any a b n ca m cb xs xs (w.drewN k) ha hb hn).mono fun e w' ⟨he, hw⟩ => ⟨by simpa using he, hw⟩)
theorem eqAccs_q (a b : Option Addr) (n ca m cb : Nat) (xs : List Acc) (w : World) (ha : InAccs w a n xs) (hb : InAccs w b m xs) (hn : n < 1000000) (k : Nat) :
    Calls Try.prog 27 #[.slice a n ca, .slice b m cb] (w.drewN k) fun e w'' => e = .returned (.bool true) ∧ ∃ m, w'' = w.drewN m :=
  Calls.quiet_of ((eqAccs_any a b n ca m cb xs xs (w.drewN k) ha hb hn).mono fun e w' ⟨he, hw⟩ => ⟨he rfl, hw⟩)
theorem len_q (B p cb : Nat) (lv : Value) (s : BS) (w : World) (h : Bank B w p cb lv s.vs s.lg) (k : Nat) :
    Calls Try.prog 22 #[.pointer (some ⟨p, 0, none⟩)] (w.drewN k) fun e w'' => e = .returned (.int .i64 s.lg.length) ∧ ∃ m, w'' = w.drewN m :=
  Calls.quiet_of_same ((len_any B p cb lv s (w.drewN k) (h.ch ((Ch.refl (fun _ => False) w).drewN k) id id (fun _ _ => id))).mono fun e w' ⟨he, hw⟩ => ⟨he, hw.symm⟩)
theorem bwords {w : World} {b : Nat} {vs : List Int} {t : TypeId} (h : Blk w b t (u64s vs)) : SameWords w (some ⟨b, 0, none⟩) vs.length vs :=
  ⟨rfl, fun _ => ⟨b, 0, rfl, fun i hi => by rw [Nat.zero_add]; exact (h.cell i).trans (u64s_getD _ _ hi)⟩⟩

set_option maxRecDepth 100000 in
set_option maxHeartbeats 2000000 in
theorem steps_main (n : Nat) (hn1 : 1 ≤ n) (hn2 : n ≤ 64) (a : Option Addr) (nl cl : Nat) (xs : List StepD) (w : World) (hx : InSteps w a nl xs) (hl : nl ≤ 200) :
    Calls Try.prog 7 #[.int .i64 n, .slice a nl cl] w fun e w' => e = .returned (.bool true) ∧ Below w.heap.size w w' := by
  have hfew : decide (nl ≤ 200 ∧ ((n : Int) ≤ 64 ∨ (4096 : Int) < n)) = true := by simp; omega
  go_enter Try.func7, Try.ntmps7
  go_wp2_with fail
  refine (few_any _ _ _ _ _).mono ?_
  rintro e w0 ⟨rfl, rfl⟩
  rw [hfew]
  clear hfew
  go_wp2_with fail
  refine (new_ok w.heap.size n hn1 (by omega) w (Nat.le_refl _)).mono ?_
  rintro e w1 ⟨p, cb, rfl, hbank, hc1, hp1, hcb1⟩
  have hbel1 := hc1.below (B := w.heap.size) (Nat.le_refl _) (fun _ h => h.elim)
  go_wp2_with fail
  refine (rnew_ok w.heap.size n hn1 (by omega) w1 hbel1.size).mono ?_
  rintro e w2 ⟨q, vb, rfl, hrbank, hc2, hq2, hvb2⟩
  have hbel2 := hbel1.trans (hc2.below hbel1.size (fun _ h => h.elim))
  have h2 : Two w.heap.size w2 p cb (.slice none 0 0) (runS n (xs.take 0)) q vb (.slice none 0 0) (runS n (xs.take 0)) :=
    ⟨hbank.ch hc2 id id (fun _ _ => id), hrbank, fun k hk => by simp [Value.ownBlock] at hk⟩
  clear hbank hrbank
  go_wp2_with fail
  go_loopw [9] (fun i wr => ∃ k : Nat, k ≤ nl ∧ i = .int .i64 k ∧ (∃ lv mv, Two w.heap.size wr p cb lv (runS n (xs.take k)) q vb mv (runS n (xs.take k))) ∧ Below w.heap.size w wr) (fun i _ => nl - (intOf i).toNat)
  case atStart => exact ⟨0, Nat.zero_le _, rfl, ⟨_, _, h2⟩, hbel2⟩
  case round =>
    clear h2 hbel1 hbel2 hc1 hc2
    obtain ⟨k, hk, rfl, ⟨lv, mv, hb⟩, hbel⟩ := hrel
    by_cases hlt : k < nl
    · obtain ⟨b, off, rfl, hbl, hcell⟩ := hx.2.2 (by omega)
      have hxl := hx.1
      obtain ⟨x, hxk⟩ : ∃ x, xs[k]? = some x := ⟨_, List.getElem?_eq_getElem (by omega)⟩
      have hok := hx.2.1 x (List.mem_of_getElem? hxk)
      have c0 := (hbel.cell (p := ⟨b, off + k * 5, none⟩) hbl).trans (hcell k 0 x _ hxk rfl)
      have c1 := (hbel.cell (p := ⟨b, off + k * 5 + 1, none⟩) hbl).trans (hcell k 1 x _ hxk rfl)
      have c2 := (hbel.cell (p := ⟨b, off + k * 5 + 2, none⟩) hbl).trans (hcell k 2 x _ hxk rfl)
      have c3 := (hbel.cell (p := ⟨b, off + k * 5 + 3, none⟩) hbl).trans (hcell k 3 x _ hxk rfl)
      have c4 := (hbel.cell (p := ⟨b, off + k * 5 + 4, none⟩) hbl).trans (hcell k 4 x _ hxk rfl)
      have hsn : runS n (xs.take (k + 1)) = (runS n (xs.take k)).step x := by
        rw [List.take_succ_eq_append_getElem (by omega), runS_snoc]
        rw [List.getElem?_eq_getElem (by omega)] at hxk
        rw [Option.some.inj hxk]
      have hlen : (runS n (xs.take k)).lg.length < 1000000 := by
        have := (runS_len n (xs.take k)).2
        have := List.length_take_le k xs
        omega
      have hcell2 := hcell k 2 x _ hxk rfl
      have Hsn := hid hsn
      clear hsn hxk hcell hxl hx
      go_wp2_with fail
      refine (both_any w.heap.size p cb lv _ q vb mv x hok wr hb hlen hbel.size).mono ?_
      rintro e w3 ⟨rfl, ⟨lv3, mv3, h3⟩, hbel3⟩
      rw [← Hsn.out] at h3
      have d2 := ((hbel.trans hbel3).cell (p := ⟨b, off + k * 5 + 2, none⟩) hbl).trans hcell2
      clear hb c0 c1 c2 c3 c4 hcell2
      have H3 := hid h3
      clear h3
      go_wp2_with fail
      refine (peek_any _ _ _ _ _ _ _ H3.out.b).mono ?_
      rintro e w4 ⟨rfl, rfl⟩
      go_wp2_with fail
      refine (rpeek_any _ _ _ _ _ _ _ H3.out.r).mono ?_
      rintro e w4 ⟨rfl, rfl⟩
      go_wp2_with fail
      go_roundw
      case rel => exact ⟨k + 1, by omega, by go_num, ⟨lv3, mv3, H3.out⟩, hbel.trans hbel3⟩
      case measure => simp [intOf]; omega
    · have hkn : k = nl := by omega
      subst hkn
      obtain ⟨s, hs⟩ : ∃ s, s = runS n (xs.take k) := ⟨_, rfl⟩
      have hlen := runS_len n (xs.take k)
      rw [← hs] at hb hlen
      have hxl := hx.1
      have hl2 := List.length_take_le k xs
      clear hs hx
      have hq0 := hb.r.hp.cell 0
      have hq1 := hb.r.hp.cell 1
      simp only [List.getElem?_toArray, List.getElem?_cons_zero, List.getElem?_cons_succ] at hq0 hq1
      obtain ⟨AL, capL, hmv, _, hra⟩ := own_accs hb.r.hl
      subst hmv
      obtain ⟨S, hS⟩ : ∃ S : Nat → Prop, ∀ k, S k ↔ k = q := ⟨_, fun _ => Iff.rfl⟩
      have hSp : Mix.Has S q := (hS _).2 rfl
      have HS := hid hS
      have Hvn : Hid (s.vs.length < 1000000) := hid (by omega)
      have Hln : Hid (s.lg.length < 1000000) := hid (by omega)
      have Hra := hid hra
      have H0 := hid hb
      clear hS hra hlen hb hxl hl2
      go_wp2_with fail
      refine Mix.wp_region_mix S (fun i => ([0, 3, 1, 1, 1, 4, 0, 0, 0, 0, 0, 0, 0, 0, 0, 0, 0, 0, 0, 3, 1, 1, 1, 4, 0, 0, 0] : List Nat).getD i 0) [0, 2, 3, 4, 5, 1, 6, 7, 8, 9, 10, 11, 12, 13, 14, 15, 16, 17, 18, 20, 21, 22, 23, 19, 24, 25, 26] (by kernel_rfl) (by kernel_rfl) ?_
      repeat (first | (refine Mix.mix_q (by simp only [List.getElem?_toArray, List.getElem?_cons_zero, List.getElem?_cons_succ]; exact rfl) rfl ?_; go_big_quiet_step (fail); refine wpQuiet_nil ?_) | (refine Mix.mix_p (by simp only [List.getElem?_toArray, List.getElem?_cons_zero, List.getElem?_cons_succ]; exact rfl) rfl rfl ?_; go_big_quiet_step (fail); refine wpQuiet_nil ?_) | (refine Mix.mix_s (by simp only [List.getElem?_toArray, List.getElem?_cons_zero, List.getElem?_cons_succ]; exact rfl) rfl rfl ?_; go_big_quiet_step (fail); refine wpQuiet_nil ?_))
      refine Mix.mix_a (by simp only [List.getElem?_toArray, List.getElem?_cons_zero, List.getElem?_cons_succ]; exact rfl) rfl fun W hW => ?_
      obtain ⟨n1, rfl⟩ := hW
      go_wp2_with fail
      have hc1 : Ch (fun _ => False) wr (wr.drewN n1) := (Ch.refl _ _).drewN _
      refine (values_any w.heap.size p cb lv s _ (H0.out.b.ch hc1 id id (fun _ _ => id))).mono ?_
      rintro e w3 ⟨gv, rfl, hval, hc3, hgv⟩
      have hc03 := hc1.trans hc3 (fun _ _ h => h)
      have h3 := H0.out.ch hc03
      have hbel3 : Below w.heap.size w w3 := hbel.trans (hc03.below hbel.size (fun _ h => h.elim))
      have hq03 := h3.r.hp.cell 0
      have hq13 := h3.r.hp.cell 1
      simp only [List.getElem?_toArray, List.getElem?_cons_zero, List.getElem?_cons_succ] at hq03 hq13
      have H3 := hid h3
      have Hval := hid hval
      have hkeep : Mix.Keep S wr w3 := fun j hj => by rw [(HS.out j).1 hj]; exact hc03.block q H0.out.r.hp.lt id
      clear h3 hval hq0 hq1
      go_wp2_with fail
      refine ⟨hkeep, ?_⟩
      repeat (first | (refine Mix.mix_q (by simp only [List.getElem?_toArray, List.getElem?_cons_zero, List.getElem?_cons_succ]; exact rfl) rfl ?_; go_big_quiet_step (exact eqWords_q _ _ _ _ _ _ _ _ (bwords Hval.out) (bwords H3.out.r.hc) Hvn.out _); refine wpQuiet_nil ?_) | (refine Mix.mix_q (by simp only [List.getElem?_toArray, List.getElem?_cons_zero, List.getElem?_cons_succ]; exact rfl) rfl ?_; go_big_quiet_step (exact len_q _ _ _ _ _ _ H3.out.b _); refine wpQuiet_nil ?_) | (refine Mix.mix_p (by simp only [List.getElem?_toArray, List.getElem?_cons_zero, List.getElem?_cons_succ]; exact rfl) rfl rfl ?_; go_big_quiet_step (fail); refine wpQuiet_nil ?_) | (refine Mix.mix_s (by simp only [List.getElem?_toArray, List.getElem?_cons_zero, List.getElem?_cons_succ]; exact rfl) rfl rfl ?_; go_big_quiet_step (fail); refine wpQuiet_nil ?_))
      refine Mix.mix_a (by simp only [List.getElem?_toArray, List.getElem?_cons_zero, List.getElem?_cons_succ]; exact rfl) rfl fun W hW => ?_
      obtain ⟨n2, rfl⟩ := hW
      go_wp2_with fail
      have hc4 : Ch (fun _ => False) w3 (w3.drewN n2) := (Ch.refl _ _).drewN _
      refine (log_any w.heap.size p cb lv s 0 _ (H3.out.b.ch hc4 id id (fun _ _ => id)) Hln.out).mono ?_
      rintro e w4 ⟨gl, rfl, hlog, hc4', hgl⟩
      have hcut : cutAt 0 s.lg.length = 0 := by simp [cutAt]
      rw [hcut, List.drop_zero] at hlog ⊢
      have hc34 := hc4.trans hc4' (fun _ _ h => h)
      have hbel4 : Below w.heap.size w w4 := hbel3.trans (hc34.below hbel3.size (fun _ h => h.elim))
      have hkeep2 : Mix.Keep S w3 w4 := fun j hj => by rw [(HS.out j).1 hj]; exact hc34.block q H3.out.r.hp.lt id
      have Hlog := hid hlog
      have Hc5 := hid (hc03.trans hc34 (fun _ _ h => h))
      clear hlog hcut hkeep
      go_wp2_with fail
      refine ⟨hkeep2, ?_⟩
      repeat (first | (refine Mix.mix_q (by simp only [List.getElem?_toArray, List.getElem?_cons_zero, List.getElem?_cons_succ]; exact rfl) rfl ?_; go_big_quiet_step (exact eqAccs_q _ _ _ _ _ _ _ _ (blk_accs Hlog.out) (Hra.out.ch Hc5.out (fun _ _ _ => id)) Hln.out _); refine wpQuiet_nil ?_) | (refine Mix.mix_q (by simp only [List.getElem?_toArray, List.getElem?_cons_zero, List.getElem?_cons_succ]; exact rfl) rfl ?_; go_big_quiet_step (fail); refine wpQuiet_nil ?_) | (refine Mix.mix_p (by simp only [List.getElem?_toArray, List.getElem?_cons_zero, List.getElem?_cons_succ]; exact rfl) rfl rfl ?_; go_big_quiet_step (fail); refine wpQuiet_nil ?_) | (refine Mix.mix_s (by simp only [List.getElem?_toArray, List.getElem?_cons_zero, List.getElem?_cons_succ]; exact rfl) rfl rfl ?_; go_big_quiet_step (fail); refine wpQuiet_nil ?_))
      intro n3
      go_wp2_with fail
      go_ret
      exact ⟨by first | rfl | simp, hbel4.trans (((Ch.refl (fun _ => False) _).drewN _).below hbel4.size (fun _ h => h.elim))⟩

set_option maxHeartbeats 400000 in
theorem steps_walk (n : Int) (a : Option Addr) (nl cl : Nat) (ls : List (List Value)) (w : World) (hn : (Lit.int .i64 n).wf = true) (hx : InRows stepKs w a nl ls) :
    Calls Try.prog 7 #[.int .i64 n, .slice a nl cl] w fun e w' => e = .returned (.bool true) ∧ Below w.heap.size w w' := by
  obtain ⟨xs, hx⟩ := in_steps hx
  by_cases hf : nl ≤ 200 ∧ (n ≤ 64 ∨ 4096 < n)
  · have hfew : decide (nl ≤ 200 ∧ (n ≤ 64 ∨ 4096 < n)) = true := decide_eq_true hf
    by_cases hb : n < 1 ∨ 4096 < n
    · go_enter Try.func7, Try.ntmps7
      go_wp2_with fail
      refine (few_any _ _ _ _ _).mono ?_
      rintro e w0 ⟨rfl, rfl⟩
      rw [hfew]
      clear hfew
      go_wp2_with fail
      refine (new_bad n hb _).mono ?_
      rintro e w0 ⟨rfl, rfl⟩
      go_wp2_with fail
      refine (rnew_bad n hb _).mono ?_
      rintro e w0 ⟨rfl, rfl⟩
      go_wp2_with fail
      go_ret
      exact ⟨rfl, Below.refl _ _⟩
    · obtain ⟨n, rfl⟩ := Int.eq_ofNat_of_zero_le (by omega : 0 ≤ n)
      exact steps_main n (by omega) (by omega) a nl cl xs w hx hf.1
  · have hfew : decide (nl ≤ 200 ∧ (n ≤ 64 ∨ 4096 < n)) = false := decide_eq_false hf
    go_enter Try.func7, Try.ntmps7
    go_wp2_with fail
    refine (few_any _ _ _ _ _).mono ?_
    rintro e w0 ⟨rfl, rfl⟩
    rw [hfew]
    clear hfew
    go_wp2_with fail
    go_ret
    exact ⟨rfl, Below.refl _ _⟩
end Go.Proofs.Ytnoaeeiekblpbaa
