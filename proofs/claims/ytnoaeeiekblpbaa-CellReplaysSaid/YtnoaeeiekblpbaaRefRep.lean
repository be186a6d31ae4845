/- The reference's Possible and Replay. -/
import Derived.Test.YtnoaeeiekblpbaaReplay
namespace Go.Proofs.Ytnoaeeiekblpbaa
open Go.RowKit
set_option linter.unusedVariables false

set_option maxRecDepth 100000 in
set_option maxHeartbeats 2000000 in
theorem rposs_any (b m : Nat) (vs : List Int) (hvn : vs.length = m) (x : Acc) (w : World) (hb : Blk w b 34 (u64s vs)) :
    Calls Try.prog 34 #[.slice (some ⟨b, 0, none⟩) m m, x.agg] w fun e w' => e = .returned (.bool (okAt vs x)) ∧ Ch (fun _ => False) w w' := by
  obtain ⟨t, c, k, o, n, s⟩ := x
  unfold Acc.agg
  by_cases ht0 : t < 0
  · have hno : okAt vs ⟨t, c, k, o, n, s⟩ = false := by simp [okAt]; intros; omega
    go_enter Try.func34, Try.ntmps34
    go_wp2_with fail
    refine Mix.wp_region_mix (fun _ => True) (fun i => ([0, 0, 0, 0, 0, 0, 0, 0, 0, 0, 0, 0, 0, 0, 0, 0, 0, 0, 0, 0, 0, 0, 0, 0, 0, 0, 0, 0, 0, 0] : List Nat).getD i 0) [0, 1, 2, 3, 4, 5, 6, 7, 8, 9, 10, 11, 12, 13, 14, 15, 16, 17, 18, 19, 20, 21, 22, 23, 24, 25, 26, 27, 28, 29] (by kernel_rfl) (by kernel_rfl) ?_
    repeat (refine Mix.mix_q (by simp only [List.getElem?_toArray, List.getElem?_cons_zero, List.getElem?_cons_succ]; exact rfl) rfl ?_; go_big_quiet_step (fail); refine wpQuiet_nil ?_)
    intro n1
    go_wp2_with fail
    all_goals (go_ret; exact ⟨by rw [hno]; rfl, ((Ch.refl _ w).alloc _).drewN _⟩)
  · have ht0' : 0 ≤ t := by omega
    have dt0 : decide (t < 0) = false := by simpa using ht0'
    by_cases ht1 : 16 ≤ t
    · have hno : okAt vs ⟨t, c, k, o, n, s⟩ = false := by simp [okAt]; intros; omega
      go_enter Try.func34, Try.ntmps34
      go_wp2_with fail
      refine Mix.wp_region_mix (fun _ => True) (fun i => ([0, 0, 0, 0, 0, 0, 0, 0, 0, 0, 0, 0, 0, 0, 0, 0, 0, 0, 0, 0, 0, 0, 0, 0, 0, 0, 0, 0, 0, 0] : List Nat).getD i 0) [0, 1, 2, 3, 4, 5, 6, 7, 8, 9, 10, 11, 12, 13, 14, 15, 16, 17, 18, 19, 20, 21, 22, 23, 24, 25, 26, 27, 28, 29] (by kernel_rfl) (by kernel_rfl) ?_
      repeat (refine Mix.mix_q (by simp only [List.getElem?_toArray, List.getElem?_cons_zero, List.getElem?_cons_succ]; exact rfl) rfl ?_; go_big_quiet_step (fail); refine wpQuiet_nil ?_)
      intro n1
      go_wp2_with fail
      all_goals (go_ret; exact ⟨by rw [hno]; rfl, ((Ch.refl _ w).alloc _).drewN _⟩)
    · have ht1' : t < 16 := by omega
      have dt1 : decide (16 ≤ t) = false := by simpa using ht1'
      by_cases hc0 : c < 0
      · have hno : okAt vs ⟨t, c, k, o, n, s⟩ = false := by simp [okAt]; intros; omega
        go_enter Try.func34, Try.ntmps34
        go_wp2_with fail
        refine Mix.wp_region_mix (fun _ => True) (fun i => ([0, 0, 0, 0, 0, 0, 0, 0, 0, 0, 0, 0, 0, 0, 0, 0, 0, 0, 0, 0, 0, 0, 0, 0, 0, 0, 0, 0, 0, 0] : List Nat).getD i 0) [0, 1, 2, 3, 4, 5, 6, 7, 8, 9, 10, 11, 12, 13, 14, 15, 16, 17, 18, 19, 20, 21, 22, 23, 24, 25, 26, 27, 28, 29] (by kernel_rfl) (by kernel_rfl) ?_
        repeat (refine Mix.mix_q (by simp only [List.getElem?_toArray, List.getElem?_cons_zero, List.getElem?_cons_succ]; exact rfl) rfl ?_; go_big_quiet_step (fail); refine wpQuiet_nil ?_)
        intro n1
        go_wp2_with fail
        all_goals (go_ret; exact ⟨by rw [hno]; rfl, ((Ch.refl _ w).alloc _).drewN _⟩)
      · obtain ⟨cc, rfl⟩ := Int.eq_ofNat_of_zero_le (by omega : 0 ≤ c)
        have dc0 : decide ((cc : Int) < 0) = false := by simp
        by_cases hc1 : (m : Int) ≤ (cc : Int)
        · have hno : okAt vs ⟨t, cc, k, o, n, s⟩ = false := by simp [okAt]; intros; omega
          go_enter Try.func34, Try.ntmps34
          go_wp2_with fail
          refine Mix.wp_region_mix (fun _ => True) (fun i => ([0, 0, 0, 0, 0, 0, 0, 0, 0, 0, 0, 0, 0, 0, 0, 0, 0, 0, 0, 0, 0, 0, 0, 0, 0, 0, 0, 0, 0, 0] : List Nat).getD i 0) [0, 1, 2, 3, 4, 5, 6, 7, 8, 9, 10, 11, 12, 13, 14, 15, 16, 17, 18, 19, 20, 21, 22, 23, 24, 25, 26, 27, 28, 29] (by kernel_rfl) (by kernel_rfl) ?_
          repeat (refine Mix.mix_q (by simp only [List.getElem?_toArray, List.getElem?_cons_zero, List.getElem?_cons_succ]; exact rfl) rfl ?_; go_big_quiet_step (fail); refine wpQuiet_nil ?_)
          intro n1
          go_wp2_with fail
          all_goals (go_ret; exact ⟨by rw [hno]; rfl, ((Ch.refl _ w).alloc _).drewN _⟩)
        · have hcn : cc < vs.length := by omega
          have dc1 : decide (m ≤ cc) = false := by simp; omega
          have hcn' : cc < m := by omega
          have hoc : ∀ q, (w.alloc q).cell? ⟨b, cc, none⟩ = some (.int .u64 (lk vs cc)) := fun q => (World.cell?_alloc_lt w q ⟨b, cc, none⟩ hb.lt).trans ((hb.cell cc).trans (u64s_getD vs cc hcn))
          have hok : okAt vs ⟨t, cc, k, o, n, s⟩ = possB ⟨t, cc, k, o, n, s⟩ (lk vs cc) := by simp [okAt]; intros; omega
          obtain ⟨lv, hlv⟩ : ∃ lv, lv = lk vs cc := ⟨_, rfl⟩
          rw [hok, ← hlv]
          rw [← hlv] at hoc
          clear hlv hok
          by_cases h1 : o = lv
          · subst h1
            have h1' : (o != o) = false := by simp
            unfold possB
            cases s
            · by_cases q1 : k = 1
              · subst q1
                go_enter Try.func34, Try.ntmps34
                go_wp2_with fail
                refine Mix.wp_region_mix (fun _ => True) (fun i => ([0, 0, 0, 0, 0, 0, 0, 0, 0, 0, 0, 0, 0, 0, 0, 0, 0, 0, 0, 0, 0, 0, 0, 0, 0, 0, 0, 0, 0, 0] : List Nat).getD i 0) [0, 1, 2, 3, 4, 5, 6, 7, 8, 9, 10, 11, 12, 13, 14, 15, 16, 17, 18, 19, 20, 21, 22, 23, 24, 25, 26, 27, 28, 29] (by kernel_rfl) (by kernel_rfl) ?_
                repeat (refine Mix.mix_q (by simp only [List.getElem?_toArray, List.getElem?_cons_zero, List.getElem?_cons_succ]; exact rfl) rfl ?_; go_big_quiet_step (fail); refine wpQuiet_nil ?_)
                intro n1
                go_wp2_with fail
                all_goals (go_ret; exact ⟨by first | (simp; done) | simp_all, ((Ch.refl _ w).alloc _).drewN _⟩)
              · have q1' : (k == 1) = false := by simpa using q1
                by_cases q2 : k = 2
                · subst q2
                  go_enter Try.func34, Try.ntmps34
                  go_wp2_with fail
                  refine Mix.wp_region_mix (fun _ => True) (fun i => ([0, 0, 0, 0, 0, 0, 0, 0, 0, 0, 0, 0, 0, 0, 0, 0, 0, 0, 0, 0, 0, 0, 0, 0, 0, 0, 0, 0, 0, 0] : List Nat).getD i 0) [0, 1, 2, 3, 4, 5, 6, 7, 8, 9, 10, 11, 12, 13, 14, 15, 16, 17, 18, 19, 20, 21, 22, 23, 24, 25, 26, 27, 28, 29] (by kernel_rfl) (by kernel_rfl) ?_
                  repeat (refine Mix.mix_q (by simp only [List.getElem?_toArray, List.getElem?_cons_zero, List.getElem?_cons_succ]; exact rfl) rfl ?_; go_big_quiet_step (fail); refine wpQuiet_nil ?_)
                  intro n1
                  go_wp2_with fail
                  all_goals (go_ret; exact ⟨by first | (simp; done) | simp_all, ((Ch.refl _ w).alloc _).drewN _⟩)
                · have q2' : (k == 2) = false := by simpa using q2
                  by_cases q3 : k = 3
                  · subst q3
                    go_enter Try.func34, Try.ntmps34
                    go_wp2_with fail
                    refine Mix.wp_region_mix (fun _ => True) (fun i => ([0, 0, 0, 0, 0, 0, 0, 0, 0, 0, 0, 0, 0, 0, 0, 0, 0, 0, 0, 0, 0, 0, 0, 0, 0, 0, 0, 0, 0, 0] : List Nat).getD i 0) [0, 1, 2, 3, 4, 5, 6, 7, 8, 9, 10, 11, 12, 13, 14, 15, 16, 17, 18, 19, 20, 21, 22, 23, 24, 25, 26, 27, 28, 29] (by kernel_rfl) (by kernel_rfl) ?_
                    repeat (refine Mix.mix_q (by simp only [List.getElem?_toArray, List.getElem?_cons_zero, List.getElem?_cons_succ]; exact rfl) rfl ?_; go_big_quiet_step (fail); refine wpQuiet_nil ?_)
                    intro n1
                    go_wp2_with fail
                    all_goals (go_ret; exact ⟨by first | (simp; done) | simp_all, ((Ch.refl _ w).alloc _).drewN _⟩)
                  · have q3' : (k == 3) = false := by simpa using q3
                    by_cases q4 : k = 4
                    · subst q4
                      go_enter Try.func34, Try.ntmps34
                      go_wp2_with fail
                      refine Mix.wp_region_mix (fun _ => True) (fun i => ([0, 0, 0, 0, 0, 0, 0, 0, 0, 0, 0, 0, 0, 0, 0, 0, 0, 0, 0, 0, 0, 0, 0, 0, 0, 0, 0, 0, 0, 0] : List Nat).getD i 0) [0, 1, 2, 3, 4, 5, 6, 7, 8, 9, 10, 11, 12, 13, 14, 15, 16, 17, 18, 19, 20, 21, 22, 23, 24, 25, 26, 27, 28, 29] (by kernel_rfl) (by kernel_rfl) ?_
                      repeat (refine Mix.mix_q (by simp only [List.getElem?_toArray, List.getElem?_cons_zero, List.getElem?_cons_succ]; exact rfl) rfl ?_; go_big_quiet_step (fail); refine wpQuiet_nil ?_)
                      intro n1
                      go_wp2_with fail
                      all_goals (go_ret; exact ⟨by first | (simp; done) | simp_all, ((Ch.refl _ w).alloc _).drewN _⟩)
                    · have q4' : (k == 4) = false := by simpa using q4
                      by_cases q5 : k = 5
                      · subst q5
                        go_enter Try.func34, Try.ntmps34
                        go_wp2_with fail
                        refine Mix.wp_region_mix (fun _ => True) (fun i => ([0, 0, 0, 0, 0, 0, 0, 0, 0, 0, 0, 0, 0, 0, 0, 0, 0, 0, 0, 0, 0, 0, 0, 0, 0, 0, 0, 0, 0, 0] : List Nat).getD i 0) [0, 1, 2, 3, 4, 5, 6, 7, 8, 9, 10, 11, 12, 13, 14, 15, 16, 17, 18, 19, 20, 21, 22, 23, 24, 25, 26, 27, 28, 29] (by kernel_rfl) (by kernel_rfl) ?_
                        repeat (refine Mix.mix_q (by simp only [List.getElem?_toArray, List.getElem?_cons_zero, List.getElem?_cons_succ]; exact rfl) rfl ?_; go_big_quiet_step (fail); refine wpQuiet_nil ?_)
                        intro n1
                        go_wp2_with fail
                        all_goals (go_ret; exact ⟨by first | (simp; done) | simp_all, ((Ch.refl _ w).alloc _).drewN _⟩)
                      · have q5' : (k == 5) = false := by simpa using q5
                        go_enter Try.func34, Try.ntmps34
                        go_wp2_with fail
                        refine Mix.wp_region_mix (fun _ => True) (fun i => ([0, 0, 0, 0, 0, 0, 0, 0, 0, 0, 0, 0, 0, 0, 0, 0, 0, 0, 0, 0, 0, 0, 0, 0, 0, 0, 0, 0, 0, 0] : List Nat).getD i 0) [0, 1, 2, 3, 4, 5, 6, 7, 8, 9, 10, 11, 12, 13, 14, 15, 16, 17, 18, 19, 20, 21, 22, 23, 24, 25, 26, 27, 28, 29] (by kernel_rfl) (by kernel_rfl) ?_
                        repeat (refine Mix.mix_q (by simp only [List.getElem?_toArray, List.getElem?_cons_zero, List.getElem?_cons_succ]; exact rfl) rfl ?_; go_big_quiet_step (fail); refine wpQuiet_nil ?_)
                        intro n1
                        go_wp2_with fail
                        all_goals (go_ret; exact ⟨by first | (simp [q1, q2, q3, q4, q5]; done) | simp_all, ((Ch.refl _ w).alloc _).drewN _⟩)
            · by_cases q1 : k = 1
              · subst q1
                go_enter Try.func34, Try.ntmps34
                go_wp2_with fail
                refine Mix.wp_region_mix (fun _ => True) (fun i => ([0, 0, 0, 0, 0, 0, 0, 0, 0, 0, 0, 0, 0, 0, 0, 0, 0, 0, 0, 0, 0, 0, 0, 0, 0, 0, 0, 0, 0, 0] : List Nat).getD i 0) [0, 1, 2, 3, 4, 5, 6, 7, 8, 9, 10, 11, 12, 13, 14, 15, 16, 17, 18, 19, 20, 21, 22, 23, 24, 25, 26, 27, 28, 29] (by kernel_rfl) (by kernel_rfl) ?_
                repeat (refine Mix.mix_q (by simp only [List.getElem?_toArray, List.getElem?_cons_zero, List.getElem?_cons_succ]; exact rfl) rfl ?_; go_big_quiet_step (fail); refine wpQuiet_nil ?_)
                intro n1
                go_wp2_with fail
                all_goals (go_ret; exact ⟨by first | (simp; done) | simp_all, ((Ch.refl _ w).alloc _).drewN _⟩)
              · have q1' : (k == 1) = false := by simpa using q1
                by_cases q2 : k = 2
                · subst q2
                  go_enter Try.func34, Try.ntmps34
                  go_wp2_with fail
                  refine Mix.wp_region_mix (fun _ => True) (fun i => ([0, 0, 0, 0, 0, 0, 0, 0, 0, 0, 0, 0, 0, 0, 0, 0, 0, 0, 0, 0, 0, 0, 0, 0, 0, 0, 0, 0, 0, 0] : List Nat).getD i 0) [0, 1, 2, 3, 4, 5, 6, 7, 8, 9, 10, 11, 12, 13, 14, 15, 16, 17, 18, 19, 20, 21, 22, 23, 24, 25, 26, 27, 28, 29] (by kernel_rfl) (by kernel_rfl) ?_
                  repeat (refine Mix.mix_q (by simp only [List.getElem?_toArray, List.getElem?_cons_zero, List.getElem?_cons_succ]; exact rfl) rfl ?_; go_big_quiet_step (fail); refine wpQuiet_nil ?_)
                  intro n1
                  go_wp2_with fail
                  all_goals (go_ret; exact ⟨by first | (simp; done) | simp_all, ((Ch.refl _ w).alloc _).drewN _⟩)
                · have q2' : (k == 2) = false := by simpa using q2
                  by_cases q3 : k = 3
                  · subst q3
                    go_enter Try.func34, Try.ntmps34
                    go_wp2_with fail
                    refine Mix.wp_region_mix (fun _ => True) (fun i => ([0, 0, 0, 0, 0, 0, 0, 0, 0, 0, 0, 0, 0, 0, 0, 0, 0, 0, 0, 0, 0, 0, 0, 0, 0, 0, 0, 0, 0, 0] : List Nat).getD i 0) [0, 1, 2, 3, 4, 5, 6, 7, 8, 9, 10, 11, 12, 13, 14, 15, 16, 17, 18, 19, 20, 21, 22, 23, 24, 25, 26, 27, 28, 29] (by kernel_rfl) (by kernel_rfl) ?_
                    repeat (refine Mix.mix_q (by simp only [List.getElem?_toArray, List.getElem?_cons_zero, List.getElem?_cons_succ]; exact rfl) rfl ?_; go_big_quiet_step (fail); refine wpQuiet_nil ?_)
                    intro n1
                    go_wp2_with fail
                    all_goals (go_ret; exact ⟨by first | (simp; done) | simp_all, ((Ch.refl _ w).alloc _).drewN _⟩)
                  · have q3' : (k == 3) = false := by simpa using q3
                    by_cases q4 : k = 4
                    · subst q4
                      go_enter Try.func34, Try.ntmps34
                      go_wp2_with fail
                      refine Mix.wp_region_mix (fun _ => True) (fun i => ([0, 0, 0, 0, 0, 0, 0, 0, 0, 0, 0, 0, 0, 0, 0, 0, 0, 0, 0, 0, 0, 0, 0, 0, 0, 0, 0, 0, 0, 0] : List Nat).getD i 0) [0, 1, 2, 3, 4, 5, 6, 7, 8, 9, 10, 11, 12, 13, 14, 15, 16, 17, 18, 19, 20, 21, 22, 23, 24, 25, 26, 27, 28, 29] (by kernel_rfl) (by kernel_rfl) ?_
                      repeat (refine Mix.mix_q (by simp only [List.getElem?_toArray, List.getElem?_cons_zero, List.getElem?_cons_succ]; exact rfl) rfl ?_; go_big_quiet_step (fail); refine wpQuiet_nil ?_)
                      intro n1
                      go_wp2_with fail
                      all_goals (go_ret; exact ⟨by first | (simp; done) | simp_all, ((Ch.refl _ w).alloc _).drewN _⟩)
                    · have q4' : (k == 4) = false := by simpa using q4
                      by_cases q5 : k = 5
                      · subst q5
                        go_enter Try.func34, Try.ntmps34
                        go_wp2_with fail
                        refine Mix.wp_region_mix (fun _ => True) (fun i => ([0, 0, 0, 0, 0, 0, 0, 0, 0, 0, 0, 0, 0, 0, 0, 0, 0, 0, 0, 0, 0, 0, 0, 0, 0, 0, 0, 0, 0, 0] : List Nat).getD i 0) [0, 1, 2, 3, 4, 5, 6, 7, 8, 9, 10, 11, 12, 13, 14, 15, 16, 17, 18, 19, 20, 21, 22, 23, 24, 25, 26, 27, 28, 29] (by kernel_rfl) (by kernel_rfl) ?_
                        repeat (refine Mix.mix_q (by simp only [List.getElem?_toArray, List.getElem?_cons_zero, List.getElem?_cons_succ]; exact rfl) rfl ?_; go_big_quiet_step (fail); refine wpQuiet_nil ?_)
                        intro n1
                        go_wp2_with fail
                        all_goals (go_ret; exact ⟨by first | (simp; done) | simp_all, ((Ch.refl _ w).alloc _).drewN _⟩)
                      · have q5' : (k == 5) = false := by simpa using q5
                        go_enter Try.func34, Try.ntmps34
                        go_wp2_with fail
                        refine Mix.wp_region_mix (fun _ => True) (fun i => ([0, 0, 0, 0, 0, 0, 0, 0, 0, 0, 0, 0, 0, 0, 0, 0, 0, 0, 0, 0, 0, 0, 0, 0, 0, 0, 0, 0, 0, 0] : List Nat).getD i 0) [0, 1, 2, 3, 4, 5, 6, 7, 8, 9, 10, 11, 12, 13, 14, 15, 16, 17, 18, 19, 20, 21, 22, 23, 24, 25, 26, 27, 28, 29] (by kernel_rfl) (by kernel_rfl) ?_
                        repeat (refine Mix.mix_q (by simp only [List.getElem?_toArray, List.getElem?_cons_zero, List.getElem?_cons_succ]; exact rfl) rfl ?_; go_big_quiet_step (fail); refine wpQuiet_nil ?_)
                        intro n1
                        go_wp2_with fail
                        all_goals (go_ret; exact ⟨by first | (simp [q1, q2, q3, q4, q5]; done) | simp_all, ((Ch.refl _ w).alloc _).drewN _⟩)
          · have h1' : (o != lv) = true := by simpa using h1
            have hno : possB ⟨t, cc, k, o, n, s⟩ lv = false := by simp [possB, h1]
            go_enter Try.func34, Try.ntmps34
            go_wp2_with fail
            refine Mix.wp_region_mix (fun _ => True) (fun i => ([0, 0, 0, 0, 0, 0, 0, 0, 0, 0, 0, 0, 0, 0, 0, 0, 0, 0, 0, 0, 0, 0, 0, 0, 0, 0, 0, 0, 0, 0] : List Nat).getD i 0) [0, 1, 2, 3, 4, 5, 6, 7, 8, 9, 10, 11, 12, 13, 14, 15, 16, 17, 18, 19, 20, 21, 22, 23, 24, 25, 26, 27, 28, 29] (by kernel_rfl) (by kernel_rfl) ?_
            repeat (refine Mix.mix_q (by simp only [List.getElem?_toArray, List.getElem?_cons_zero, List.getElem?_cons_succ]; exact rfl) rfl ?_; go_big_quiet_step (fail); refine wpQuiet_nil ?_)
            intro n1
            go_wp2_with fail
            all_goals (go_ret; exact ⟨by rw [hno]; rfl, ((Ch.refl _ w).alloc _).drewN _⟩)

set_option maxHeartbeats 400000 in
theorem rreplay_bad (n : Int) (hn : n < 1 ∨ 4096 < n) (a : Option Addr) (m c : Nat) (w : World) : Calls Try.prog 13 #[.int .i64 n, .slice a m c] w fun e w' => e = .returned (.tuple #[.slice none 0 0, .int .i64 0, .int .i64 2]) ∧ w = w' := by
  rcases hn with h | h
  · go_enter Try.func13, Try.ntmps13
    go_wp2_with fail
    go_ret3
    exact ⟨rfl, rfl⟩
  · have h' : ¬ n < 1 := by omega
    go_enter Try.func13, Try.ntmps13
    go_wp2_with fail
    go_ret3
    exact ⟨rfl, rfl⟩

set_option maxRecDepth 100000 in
set_option maxHeartbeats 2000000 in
theorem rreplay_ok (n : Nat) (h1 : 1 ≤ n) (h2 : n ≤ 4096) (a : Option Addr) (m c : Nat) (lg : List Acc) (w : World) (hin : InAccs w a m lg) (hm : m < 1000000) :
    Calls Try.prog 13 #[.int .i64 n, .slice a m c] w fun e w' => RepAns n w w' (repF (List.replicate n 0) 0 lg) e := by
  have hmk := run_make_u64 (P := Try.prog) 23 34 default _ Try.underlying23 Try.infoU64 rfl n (by omega)
  obtain ⟨rp, hrp⟩ : ∃ rp, rp = repF (List.replicate n 0) 0 lg := ⟨_, rfl⟩
  rw [← hrp]
  have Hrp := hid hrp
  clear hrp
  go_enter Try.func13, Try.ntmps13
  go_wp2_with fail
  go_loopw [8] (fun i wr => ∃ k : Nat, k ≤ m ∧ i = .int .i64 k ∧ ∃ vs : List Int, vs.length = n ∧ repF vs k (lg.drop k) = rp ∧ Blk wr w.heap.size 34 (u64s vs) ∧ Ch (fun _ => False) w wr) (fun i _ => m - (intOf i).toNat)
  case atStart => exact ⟨0, Nat.zero_le _, rfl, List.replicate n 0, by simp, by rw [Hrp.out]; rfl, Blk.new w _ _, (Ch.refl _ w).alloc _⟩
  case round =>
    obtain ⟨k, hk, rfl, vs, hvn, hrep, hb, hch⟩ := hrel
    by_cases hlt : k < m
    · obtain ⟨b, off, rfl, hbl, hcell⟩ := hin.2 (by omega)
      obtain ⟨⟨xt, xc, xk, xo, xn, xs⟩, hxk⟩ : ∃ x, lg[k]? = some x := ⟨_, List.getElem?_eq_getElem (by have := hin.1; omega)⟩
      have c0 : wr.cell? ⟨b, off + k * 6, none⟩ = some (.int .i64 xt) := (hch.cell (p := ⟨b, off + k * 6, none⟩) hbl id).trans (hcell k 0 _ _ hxk rfl)
      have c1 : wr.cell? ⟨b, off + k * 6 + 1, none⟩ = some (.int .i64 xc) := (hch.cell (p := ⟨b, off + k * 6 + 1, none⟩) hbl id).trans (hcell k 1 _ _ hxk rfl)
      have c2 : wr.cell? ⟨b, off + k * 6 + 2, none⟩ = some (.int .u8 xk) := (hch.cell (p := ⟨b, off + k * 6 + 2, none⟩) hbl id).trans (hcell k 2 _ _ hxk rfl)
      have c3 : wr.cell? ⟨b, off + k * 6 + 3, none⟩ = some (.int .u64 xo) := (hch.cell (p := ⟨b, off + k * 6 + 3, none⟩) hbl id).trans (hcell k 3 _ _ hxk rfl)
      have c4 : wr.cell? ⟨b, off + k * 6 + 4, none⟩ = some (.int .u64 xn) := (hch.cell (p := ⟨b, off + k * 6 + 4, none⟩) hbl id).trans (hcell k 4 _ _ hxk rfl)
      have c5 : wr.cell? ⟨b, off + k * 6 + 5, none⟩ = some (.bool xs) := (hch.cell (p := ⟨b, off + k * 6 + 5, none⟩) hbl id).trans (hcell k 5 _ _ hxk rfl)
      obtain ⟨x, hx⟩ : ∃ x : Acc, x = ⟨xt, xc, xk, xo, xn, xs⟩ := ⟨_, rfl⟩
      rw [← hx] at hxk
      have hdrop : lg.drop k = x :: lg.drop (k + 1) := by
        have hkl := (List.getElem?_eq_some_iff.1 hxk)
        rw [List.drop_eq_getElem_cons hkl.1, hkl.2]
      have hrep' : (if okAt vs x = true then repF (vs.set x.c.toNat x.n) (k + 1) (lg.drop (k + 1)) else (none, k)) = rp := by rw [← hrep, hdrop]; rfl
      have Hrep := hid hrep'
      have Hvn := hid hvn
      have Hx := hid hx
      have hbl' : b < wr.heap.size := Nat.lt_of_lt_of_le hbl hch.size
      clear hrep hdrop hrep' hvn hcell hxk hin hx
      go_wp2_with fail
      refine (rposs_any w.heap.size n vs Hvn.out ⟨xt, xc, xk, xo, xn, xs⟩ wr hb).mono ?_
      rintro e w2 ⟨rfl, cP⟩
      have b2 := cP.blk hb id
      have ch2 := hch.trans cP (fun _ _ h => h)
      by_cases hp : okAt vs ⟨xt, xc, xk, xo, xn, xs⟩ = true
      · have hpb : 0 ≤ xt ∧ xt < 16 ∧ 0 ≤ xc ∧ xc < vs.length := by
          simp only [okAt, Bool.and_eq_true, decide_eq_true_eq] at hp
          exact hp.1
        obtain ⟨cc, rfl⟩ := Int.eq_ofNat_of_zero_le hpb.2.2.1
        have hcn : cc < vs.length := by omega
        have hcn' : cc < n := by have := Hvn.out; omega
        have d1 := (cP.cell (p := ⟨b, off + k * 6 + 1, none⟩) hbl' id).trans c1
        have d4 := (cP.cell (p := ⟨b, off + k * 6 + 4, none⟩) hbl' id).trans c4
        have fo := (b2.cell cc).trans (u64s_getD vs cc hcn)
        have ff := b2.free cc
        go_wp2_with fail
        refine Mix.wp_region_mix (fun _ => True) (fun i => ([0, 0, 0, 0, 0, 0, 0, 0, 0, 0, 0, 0, 2] : List Nat).getD i 0) [0, 1, 2, 3, 4, 5, 6, 7, 8, 9, 10, 11, 12] (by kernel_rfl) (by kernel_rfl) ?_
        repeat (refine Mix.mix_q (by simp only [List.getElem?_toArray, List.getElem?_cons_zero, List.getElem?_cons_succ]; exact rfl) rfl ?_; go_big_quiet_step (fail); refine wpQuiet_nil ?_)
        refine Mix.mix_e (by simp only [List.getElem?_toArray, List.getElem?_cons_zero, List.getElem?_cons_succ]; exact rfl) rfl fun W hW => ?_
        obtain ⟨n1, rfl⟩ := hW
        go_wp2_with fail
        intro n2
        go_wp2_with fail
        go_roundw
        case rel =>
          refine ⟨k + 1, by omega, by go_num, vs.set cc xn, by rw [List.length_set]; exact Hvn.out, ?_, ?_, ?_⟩
          · have := Hrep.out
            rw [Hx.out, if_pos hp] at this
            exact this
          · rw [← u64s_set]; exact ((b2.drewN n1).put cc _).drewN n2
          · exact (((ch2.drewN n1).set (fun h => absurd h (Nat.lt_irrefl _)) _).drewN n2)
        case measure => simp [intOf]; omega
      · have hp' : okAt vs ⟨xt, xc, xk, xo, xn, xs⟩ = false := by simpa using hp
        go_wp2_with fail
        go_ret3
        have := Hrep.out
        rw [Hx.out, if_neg hp] at this
        refine ⟨ch2, ?_⟩
        rw [← this]
        rfl
    · have hkm : k = m := by omega
      subst hkm
      have hrep' : (some vs, k) = rp := by rw [← hrep, List.drop_eq_nil_of_le (by rw [hin.1]; exact Nat.le_refl _)]; rfl
      have Hrep := hid hrep'
      clear hrep hrep'
      go_wp2_with fail
      go_ret3
      refine ⟨hch, ?_⟩
      rw [← Hrep.out]
      exact ⟨hvn, w.heap.size, rfl, hb⟩
end Go.Proofs.Ytnoaeeiekblpbaa
