/- The feed: a run drained. -/
import Derived.Test.YtonjbofdmmnpdaaFeedO
import Derived.Test.YtonjbofdmmnpdaaFeedQ
import Derived.Test.YtonjbofdmmnpdaaFeedS
namespace Go.Proofs.Ytonjbofdmmnpdaa
open Go.RowKit
set_option linter.unusedVariables false
set_option linter.unusedSimpArgs false
set_option linter.unusedSectionVars false

theorem con_P (x : Xs) (r : Rd) : (x.conR r).P = x.P := by
  unfold Xs.conR Xs.endR
  split
  · split <;> rfl
  · rfl
theorem con_takes (x : Xs) (r : Rd) : (x.conR r).takes = x.takes + 1 := by
  unfold Xs.conR Xs.endR
  split
  · split <;> rfl
  · rfl
def numAt (w : World) (X i : Nat) : Nat := (intOf ((w.cell? ⟨X, i, none⟩).getD (.bool false))).toNat
theorem numAt_eq {w : World} {X i n : Nat} (h : w.cell? ⟨X, i, none⟩ = some (.int .i64 n)) : numAt w X i = n := by
  unfold numAt
  rw [h]
  simp [intOf]

theorem runX_drewN {B p cb fb X : Nat} {x : Xs} {w0 w : World} (h : RunX B p cb fb X x w0 w) (n : Nat) : RunX B p cb fb X x w0 (w.drewN n) := by
  obtain ⟨lv, vp, vi, vg, vl, pb, rb, hR⟩ := h
  exact ⟨lv, vp, vi, vg, vl, pb, rb, hR.drewN n⟩
/-- A run in memory, without the words of what it is. -/
structure AtRun (B p cb fb X k m : Nat) (y : Xs) (w0 w : World) : Prop where
  good : Good k m y
  run : RunX B p cb fb X y w0 w

set_option maxRecDepth 100000 in
set_option maxHeartbeats 4000000 in
theorem walkDrains (n : Int) (a : Option Addr) (l c : Nat) (ps : List Int) (w : World) (hn : (Lit.int .i64 n).wf = true) (hd : InInts .u8 w a l ps) :
    Calls Try.prog 8 #[.int .i64 n, .slice a l c] w fun e w' => e = .returned (.bool true) ∧ Below w.heap.size w w' := by
  by_cases hs : someB n l = true
  · obtain ⟨k, rfl, h1, h6, hl⟩ := someB_spec hs
    have Hd := hid hd
    clear hd hn
    go_enter Try.func8, Try.ntmps8
    go_wp2_with fail
    refine (some_any _ a l c w).mono ?_
    rintro e w0 ⟨rfl, rfl⟩
    rw [hs]
    go_wp2_with fail
    refine (play_any k h1 h6 a l c ps w Hd.out hl).mono ?_
    rintro e w1 ⟨p, cb, fb, X, x, rfl, hG, hX⟩
    clear hs hl Hd
    have h0 := hid (AtRun.mk hG hX)
    clear hG hX
    go_wp2_with fail
    go_loopw [] (fun wr => ∃ (j : Nat) (y : Xs), j ≤ 6 ∧ AtRun w.heap.size p cb fb X k (900 + j) y w wr ∧ (y.P.isSome = true → j ≤ y.steps)) (fun wr => 10 - numAt wr X 9)
    case atStart => exact ⟨0, x, by omega, h0.out, fun _ => Nat.zero_le _⟩
    case round =>
      obtain ⟨j, y, hj, hA, hst⟩ := hrel
      clear h0
      obtain ⟨hG, hX⟩ := hA
      have HG := hid hG
      rcases hP : y.P with _ | q
      · obtain ⟨lv, vp, vi, vg, vl, pb, rb, hR⟩ := hX
        have x1 : wr.cell? ⟨X, 1, none⟩ = some (.pointer none) := by have := hR.x.cell 1; rw [hP] at this; exact this
        have h2 := hid (AtRun.mk (HG.out.mono (show 900 + j ≤ 906 by omega)) ⟨lv, vp, vi, vg, vl, pb, rb, hR⟩)
        have HP := hid hP
        clear hR HG hst hP hG hj
        go_wp2_with fail
        go_loopw [] (fun wr => ∃ (j : Nat) (y : Xs), j ≤ 4 ∧ AtRun w.heap.size p cb fb X k (906 + j) y w wr ∧ y.P = none ∧ (y.R.isSome = true → j ≤ y.takes)) (fun wr => 10 - numAt wr X 10)
        case atStart => exact ⟨0, y, by omega, h2.out, HP.out, fun _ => Nat.zero_le _⟩
        case round =>
          clear x1 h2 HP
          obtain ⟨j, y, hj, hA, hyP, hst⟩ := hrel
          obtain ⟨hG, hX⟩ := hA
          have HG := hid hG
          rcases hR : y.R with _ | r
          · obtain ⟨lv, vp, vi, vg, vl, pb, rb, hW⟩ := hX
            have x1 : wr.cell? ⟨X, 1, none⟩ = some (.pointer none) := by have := hW.x.cell 1; rw [hyP] at this; exact this
            have x2 : wr.cell? ⟨X, 2, none⟩ = some (.pointer none) := by have := hW.x.cell 2; rw [hR] at this; exact this
            have h3 := hid (AtRun.mk (HG.out.mono (show 906 + j ≤ 910 by omega)) ⟨lv, vp, vi, vg, vl, pb, rb, hW⟩)
            have HP := hid hyP
            have HR0 := hid hR
            have hpl : pot y.s y.f ≤ k + 1 := by
              obtain ⟨⟨H, T, aa, hI⟩, hnn⟩ := HG.out
              rw [← hnn]; exact pot_le hI
            clear hW HG hst hyP hR hG hj
            go_wp2_with fail
            go_loopw [6] (fun i wr => ∃ (j : Nat) (y : Xs), i = .int .i64 j ∧ AtRun w.heap.size p cb fb X k (910 + 4 * j) y w wr ∧ y.P = none ∧ y.R = none ∧ j + pot y.s y.f ≤ k + 1) (fun i _ => k + 2 - (intOf i).toNat)
            case atStart => exact ⟨0, y, rfl, h3.out, HP.out, HR0.out, by omega⟩
            case round =>
              clear x1 x2 h3 HP HR0 hpl
              obtain ⟨j, y, rfl, hA, hyP, hyR, hpt⟩ := hrel
              obtain ⟨hG, hX⟩ := hA
              obtain ⟨lv, vp, vi, vg, vl, pb, rb, hW⟩ := hX
              rw [hyP, hyR] at hW
              obtain ⟨Ap, cp, rfl, _⟩ := own_slice hW.rp
              obtain ⟨⟨H, T, aa, hI⟩, hnn⟩ := hG
              have hgol : y.got.length ≤ 2000 := by have := hI.gl; omega
              have hjk : decide ((j : Int) ≤ (k : Int) + 1) = true := decide_eq_true (by omega)
              have x0 : wr.cell? ⟨X, 0, none⟩ = some (.pointer (some ⟨fb, 0, none⟩)) := hW.x.cell 0
              have x7 : wr.cell? ⟨X, 7, none⟩ = some vg := hW.x.cell 7
              have HR := hid hW
              have HI := hid hI
              have HnN := hid hnn
              have HyP := hid hyP
              have HyR := hid hyR
              clear hW hI hnn hyP hyR
              go_wp2_with fail
              refine Mix.wp_region_mix (fun _ => True) (fun i => ([0, 0, 0, 0, 0, 0, 2, 0, 0, 0, 0, 0, 0, 0] : List Nat).getD i 0) [0, 1, 2, 3, 4, 5, 6, 7, 8, 9, 10, 11, 12, 13] (by kernel_rfl) (by kernel_rfl) ?_
              repeat (refine Mix.mix_q (by simp only [List.getElem?_toArray, List.getElem?_cons_zero, List.getElem?_cons_succ]; exact rfl) rfl ?_; go_big_quiet_step ((go_at_call 18; exact last_q w.heap.size X _ _ _ x7 HR.out.rg (by omega) _)); refine wpQuiet_nil ?_)
              refine Mix.mix_e (by simp only [List.getElem?_toArray, List.getElem?_cons_zero, List.getElem?_cons_succ]; exact rfl) rfl fun W1 hW1 => ?_
              obtain ⟨n1, rfl⟩ := hW1
              go_wp2_with fail
              refine (recv_run w.heap.size p cb fb X lv _ vi vg vl y _ H T aa _ w _ HI.out (by omega) HyP.out HyR.out (HR.out.drewN n1)).mono ?_
              rintro e w2 ⟨lv', s', f', hW', hfn, hHT, hres⟩
              clear x0 x7
              rcases hres with ⟨v, lg, rfl, hGot, hInv, hpp⟩ | ⟨v, lg, rfl, hpu⟩
              · have hX1 : RunX w.heap.size p cb fb X ({ y with s := s', f := f' } : Xs) w w2 := by
                  refine runX_mk (x := { y with s := s', f := f' }) hW' pb rb rfl rfl ?_ rfl rfl rfl rfl ?_ ?_
                  · simp only [xCells, HyP.out, HyR.out, hfn]
                    try rfl
                  · show none = y.P.map _; rw [HyP.out]; rfl
                  · show none = y.R.map _; rw [HyR.out]; rfl
                have HX1 := hid hX1
                have HGot := hid hGot
                have HInv := hid hInv
                have HHT := hid hHT
                have Hfn := hid hfn
                clear hX1 hGot hInv hHT hW' hfn
                go_wp2_with fail
                repeat (refine Mix.mix_q (by simp only [List.getElem?_toArray, List.getElem?_cons_zero, List.getElem?_cons_succ]; exact rfl) rfl ?_; go_big_quiet_step (fail); refine wpQuiet_nil ?_)
                intro n2
                go_wp2_with fail
                obtain ⟨H3, T3, g1, g2, g3, g4⟩ := HHT.out
                refine (got_any w.heap.size p cb fb X _ v lg H3 T3 w _ (runX_drewN HX1.out n2) ⟨?_, ?_, hgol, ?_⟩ ⟨g1, g2, g3, g4⟩ HGot.out).mono ?_
                · show y.pushed.length ≤ 2000; have := HI.out.pm; omega
                · show y.items.length ≤ 2000; rw [HI.out.il]; have := HI.out.HT; omega
                · exact HI.out.gl.1.symm
                rintro e w3 ⟨rfl, hX3⟩
                have HX3 := hid hX3
                clear hX3 g1 g2 g3 g4
                go_wp2_with fail
                go_roundw
                case rel =>
                  obtain ⟨Hh, Tt, ab, hIz⟩ := HInv.out
                  refine ⟨j + 1, _, by go_num, AtRun.mk ⟨⟨Hh, Tt, ab, hIz⟩, ?_⟩ HX3.out, HyP.out, HyR.out, ?_⟩
                  · show f'.n = k; rw [Hfn.out]; exact HnN.out
                  · show j + 1 + pot s' f' ≤ k + 1; omega
                case measure => simp [intOf]; omega
              · have HW' := hid hW'
                clear hW' hHT hfn
                go_wp2_with fail
                repeat (refine Mix.mix_q (by simp only [List.getElem?_toArray, List.getElem?_cons_zero, List.getElem?_cons_succ]; exact rfl) rfl ?_; go_big_quiet_step (fail); refine wpQuiet_nil ?_)
                intro n2
                go_wp2_with fail
                rcases hpu with hpu | hpu
                · refine Mix.wp_region_mix (fun _ => True) (fun i => ([0, 0, 0, 0, 0, 0, 0, 0, 0, 0, 0, 0, 0, 0, 0, 0, 0, 0, 0, 0, 0, 0, 0, 0, 0, 0, 0, 0, 0, 0, 0, 0, 0, 0, 0, 0, 0, 0, 0, 0, 0, 0, 2, 0, 0] : List Nat).getD i 0) [0, 1, 2, 3, 4, 5, 6, 7, 8, 9, 10, 11, 12, 13, 14, 15, 16, 17, 18, 19, 20, 21, 22, 23, 24, 25, 26, 27, 28, 29, 30, 31, 32, 33, 34, 35, 36, 37, 38, 39, 40, 41, 42, 43, 44] (by kernel_rfl) (by kernel_rfl) ?_
                  refine Mix.mix_world fun wf hwf => ?_
                  have HR := hid (show RunW _ _ _ _ _ _ _ _ _ _ _ _ _ _ _ _ _ _ _ _ wf by rw [hwf]; exact HW'.out.drewN n2)
                  clear hwf HW'
                  have hl0 : y.pushed.length = 0 := hpu
                  have x4 : wf.cell? ⟨X, 4, none⟩ = some (.slice Ap 0 cp) := by rw [← hl0]; exact HR.out.x.cell 4
                  clear hl0 hpu
                  have x7 : wf.cell? ⟨X, 7, none⟩ = some vg := HR.out.x.cell 7
                  have x14 : wf.cell? ⟨X, 14, none⟩ = some (.bool true) := HR.out.x.cell 14
                  have x15 : wf.cell? ⟨X, 15, none⟩ = some (.bool true) := HR.out.x.cell 15
                  have x16 : wf.cell? ⟨X, 16, none⟩ = some (.bool true) := HR.out.x.cell 16
                  repeat (refine Mix.mix_q (by simp only [List.getElem?_toArray, List.getElem?_cons_zero, List.getElem?_cons_succ]; exact rfl) rfl ?_; go_big_quiet_step ((go_at_call 18; exact last_q w.heap.size X _ _ _ x7 HR.out.rg (by omega) _)); refine wpQuiet_nil ?_)
                  refine Mix.mix_e (by simp only [List.getElem?_toArray, List.getElem?_cons_zero, List.getElem?_cons_succ]; exact rfl) rfl fun W3 hW3 => ?_
                  obtain ⟨n3, rfl⟩ := hW3
                  go_wp2_with fail
                  refine (known_any _).mono ?_
                  rintro e wk ⟨rfl, hbk⟩
                  go_wp2_with fail
                  repeat (refine Mix.mix_q (by simp only [List.getElem?_toArray, List.getElem?_cons_zero, List.getElem?_cons_succ]; exact rfl) rfl ?_; go_big_quiet_step (fail); refine wpQuiet_nil ?_)
                  intro n4
                  go_wp2_with fail
                  go_ret
                  have hb1 : Below w.heap.size w (wf.drewN n3) := (HR.out.drewN n3).bel
                  exact ⟨by first | rfl | simp, (hb1.trans (hbk.mono hb1.size)).trans (((Ch.refl (fun _ => False) wk).drewN n4).below (Nat.le_trans hb1.size hbk.size) (fun _ e => e.elim))⟩
                · refine Mix.wp_region_mix (fun _ => True) (fun i => ([0, 0, 0, 0, 0, 0, 0, 0, 0, 0, 0, 0, 0, 0, 0, 0, 0, 0, 0, 0, 0, 0, 0, 0, 0, 0, 0, 0, 0, 0, 0, 0, 0, 0, 0, 0, 0, 0, 0, 0, 0, 0, 2, 0, 0] : List Nat).getD i 0) [0, 1, 2, 3, 4, 5, 6, 7, 8, 9, 10, 11, 12, 13, 14, 15, 16, 17, 18, 19, 20, 21, 22, 23, 24, 25, 26, 27, 28, 29, 30, 31, 32, 33, 34, 35, 36, 37, 38, 39, 40, 41, 42, 43, 44] (by kernel_rfl) (by kernel_rfl) ?_
                  refine Mix.mix_world fun wf hwf => ?_
                  have HR := hid (show RunW _ _ _ _ _ _ _ _ _ _ _ _ _ _ _ _ _ _ _ _ wf by rw [hwf]; exact HW'.out.drewN n2)
                  clear hwf HW'
                  obtain ⟨hpu1, hpu2⟩ := hpu
                  obtain ⟨gp, cp2, hvp, _, hcl⟩ := row_last HR.out.rp rfl hpu1
                  have x4 : wf.cell? ⟨X, 4, none⟩ = some (.slice (some ⟨gp, 0, none⟩) y.pushed.length cp2) := by rw [← hvp]; exact HR.out.x.cell 4
                  have hpm : y.pushed.length ≤ 2000 := by have := HI.out.pm; omega
                  obtain ⟨N, hN⟩ : ∃ N, y.pushed.length = N := ⟨_, rfl⟩
                  rw [hN] at x4 hcl hpu1 hpm
                  have hne : ((N : Int) == 0) = false := by rw [beq_eq_false_iff_ne]; omega
                  have hee : (lastI y.got == lastI y.pushed) = true := by rw [beq_iff_eq]; exact hpu2
                  clear hpu2 hvp hN
                  have x7 : wf.cell? ⟨X, 7, none⟩ = some vg := HR.out.x.cell 7
                  have x14 : wf.cell? ⟨X, 14, none⟩ = some (.bool true) := HR.out.x.cell 14
                  have x15 : wf.cell? ⟨X, 15, none⟩ = some (.bool true) := HR.out.x.cell 15
                  have x16 : wf.cell? ⟨X, 16, none⟩ = some (.bool true) := HR.out.x.cell 16
                  repeat (refine Mix.mix_q (by simp only [List.getElem?_toArray, List.getElem?_cons_zero, List.getElem?_cons_succ]; exact rfl) rfl ?_; go_big_quiet_step ((go_at_call 18; exact last_q w.heap.size X _ _ _ x7 HR.out.rg (by omega) _)); refine wpQuiet_nil ?_)
                  refine Mix.mix_e (by simp only [List.getElem?_toArray, List.getElem?_cons_zero, List.getElem?_cons_succ]; exact rfl) rfl fun W3 hW3 => ?_
                  obtain ⟨n3, rfl⟩ := hW3
                  go_wp2_with fail
                  refine (known_any _).mono ?_
                  rintro e wk ⟨rfl, hbk⟩
                  go_wp2_with fail
                  repeat (refine Mix.mix_q (by simp only [List.getElem?_toArray, List.getElem?_cons_zero, List.getElem?_cons_succ]; exact rfl) rfl ?_; go_big_quiet_step (fail); refine wpQuiet_nil ?_)
                  intro n4
                  go_wp2_with fail
                  go_ret
                  have hb1 : Below w.heap.size w (wf.drewN n3) := (HR.out.drewN n3).bel
                  exact ⟨by first | rfl | simp, (hb1.trans (hbk.mono hb1.size)).trans (((Ch.refl (fun _ => False) wk).drewN n4).below (Nat.le_trans hb1.size hbk.size) (fun _ e => e.elim))⟩
          · obtain ⟨⟨H, T, aa, hI⟩, hnn⟩ := hG
            have htk := (hI.cons r hR).tk.1
            have hjt : j ≤ y.takes := hst (by rw [hR]; rfl)
            have hXX := hX
            obtain ⟨lv, vp, vi, vg, vl, pb, rb, hW⟩ := hX
            have x2 : wr.cell? ⟨X, 2, none⟩ = some (.pointer (some ⟨rb, 0, none⟩)) := by have := hW.x.cell 2; rw [hR] at this; exact this
            have x10 : wr.cell? ⟨X, 10, none⟩ = some (.int .i64 y.takes) := hW.x.cell 10
            have hlt : decide ((y.takes : Int) < 10) = true := decide_eq_true (by omega)
            have hlt2 : decide (y.takes < 10) = true := decide_eq_true (by omega)
            have hm1 := numAt_eq x10
            have HI := hid hI
            have HX := hid hXX
            have HR0 := hid hR
            have HyP := hid hyP
            clear hW hI hXX hR hyP hnn hst
            go_wp2_with fail
            refine (con_some w.heap.size p cb fb X y (906 + j) H T aa w wr r HR0.out HI.out (by omega) HX.out).mono ?_
            rintro e w2 ⟨rfl, hX2⟩
            have h10 : numAt w2 X 10 = y.takes + 1 := by
              obtain ⟨_, _, _, _, _, _, _, hW2⟩ := hX2
              rw [← con_takes y r]
              exact numAt_eq (hW2.x.cell 10)
            have HX2 := hid hX2
            clear hX2
            go_wp2_with fail
            go_roundw
            case rel => exact ⟨j + 1, y.conR r, by omega, AtRun.mk (good_conR HG.out (by omega) HR0.out) HX2.out, (con_P y r).trans HyP.out, fun _ => by rw [con_takes]; omega⟩
            case measure => rw [hm1, h10]; omega
      · obtain ⟨⟨H, T, aa, hI⟩, hnn⟩ := hG
        have hst5 := (hI.prod q hP).st.1
        have hjt : j ≤ y.steps := hst (by rw [hP]; rfl)
        have hXX := hX
        obtain ⟨lv, vp, vi, vg, vl, pb, rb, hW⟩ := hX
        have x1 : wr.cell? ⟨X, 1, none⟩ = some (.pointer (some ⟨pb, 0, none⟩)) := by have := hW.x.cell 1; rw [hP] at this; exact this
        have x9 : wr.cell? ⟨X, 9, none⟩ = some (.int .i64 y.steps) := hW.x.cell 9
        have hlt : decide ((y.steps : Int) < 10) = true := decide_eq_true (by omega)
        have hlt2 : decide (y.steps < 10) = true := decide_eq_true (by omega)
        have hm1 := numAt_eq x9
        have HI := hid hI
        have HX := hid hXX
        have HP := hid hP
        clear hW hI hXX hP hnn hst
        go_wp2_with fail
        refine (produce_step w.heap.size p cb fb X y (900 + j) H T aa 0 w wr q HI.out (by omega) HP.out HX.out).mono ?_
        rintro e w2 ⟨rfl, hX2⟩
        have h9 : numAt w2 X 9 = y.steps + 1 := by
          obtain ⟨_, _, _, _, _, _, _, hW2⟩ := hX2
          exact numAt_eq (hW2.x.cell 9)
        have HX2 := hid hX2
        clear hX2
        go_wp2_with fail
        go_roundw
        case rel => exact ⟨j + 1, y.stP q, by omega, AtRun.mk (good_stP HG.out (by omega) HP.out) HX2.out, fun _ => by show j + 1 ≤ y.steps + 1; omega⟩
        case measure => rw [hm1, h9]; omega
  · have hs' : someB n l = false := by simpa using hs
    clear hs
    go_enter Try.func8, Try.ntmps8
    go_wp2_with fail
    refine (some_any n a l c w).mono ?_
    rintro e w0 ⟨rfl, rfl⟩
    rw [hs']
    go_wp2_with fail
    refine (known_any w).mono ?_
    rintro e w2 ⟨rfl, hb⟩
    go_wp2_with fail
    go_ret
    exact ⟨rfl, hb⟩
end Go.Proofs.Ytonjbofdmmnpdaa
