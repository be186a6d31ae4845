/- QueueSteps: the walk. -/
import Derived.Test.YtpkjjlahmjijnaaQsI
namespace Go.Proofs.Ytpkjjlahmjijnaa
open Go.RowKit
set_option linter.unusedVariables false
set_option linter.unusedSimpArgs false
set_option linter.unusedSectionVars false

theorem own_cell {w : World} {B e m m' g c : Nat} {xs : List Value} {k : Nat} {u : Value} (h : w.ownsRow B e 1 (.slice (some ⟨g, 0, none⟩) m c) m' xs) (hu : xs[k]? = some u) : w.cell? ⟨g, k, none⟩ = some u := by
  have hc := h.cells (g := g) rfl k u hu
  rw [addr_add0] at hc; exact hc
set_option maxRecDepth 100000 in
set_option maxHeartbeats 16000000 in
theorem qsteps_walk (n0 : Int) (a : Option Addr) (len cap : Nat) (ls : List (List Value)) (w : World) (hn : (Lit.int .i64 n0).wf = true) (hx : InRows evKs w a len ls) :
    Calls Try.prog 9 #[.int .i64 n0, .slice a len cap] w fun e w' => e = .returned (.bool true) ∧ Below w.heap.size w w' := by
  obtain ⟨xs, hev⟩ := in_evs hx
  have HE := hid hev
  clear hx hev
  by_cases h1 : n0 < 1
  · have d1 : decide (n0 < 1) = true := decide_eq_true h1
    go_enter Try.func9, Try.ntmps9
    go_wp2_with fail
    go_ret
    exact ⟨rfl, Below.refl _ _⟩
  have d1 : decide (n0 < 1) = false := decide_eq_false h1
  by_cases h2 : 6 < n0
  · have d2 : decide (6 < n0) = true := decide_eq_true h2
    go_enter Try.func9, Try.ntmps9
    go_wp2_with fail
    go_ret
    exact ⟨rfl, Below.refl _ _⟩
  have d2 : decide (6 < n0) = false := decide_eq_false h2
  by_cases h3 : 200 < len
  · have d3 : decide (200 < len) = true := decide_eq_true h3
    have d3' : decide ((200 : Int) < (len : Int)) = true := decide_eq_true (by omega)
    go_enter Try.func9, Try.ntmps9
    go_wp2_with fail
    go_ret
    exact ⟨rfl, Below.refl _ _⟩
  have d3 : decide (200 < len) = false := decide_eq_false h3
  have d3' : decide ((200 : Int) < (len : Int)) = false := decide_eq_false (by omega)
  obtain ⟨n, rfl⟩ := Int.eq_ofNat_of_zero_le (show 0 ≤ n0 by omega)
  have hl : len ≤ 200 := by omega
  have hn1 : 1 ≤ n := by omega
  have hn6 : n ≤ 6 := by omega
  go_enter Try.func9, Try.ntmps9
  go_wp2_with fail
  rw [show ((n : Int) + 4) = ((n + 4 : Nat) : Int) by push_cast; rfl]
  refine (new_ok w.heap.size (n + 4) (by omega) (by omega) w (Nat.le_refl _)).mono ?_
  rintro e w1 ⟨p, cb, rfl, hbank, hc1, hp1, hcb1⟩
  have hbel1 := hc1.below (B := w.heap.size) (Nat.le_refl _) (fun _ h => h.elim)
  have HB1 := hid hbank
  clear hbank
  go_wp2_with fail
  refine (rnew_ok w.heap.size (n + 4) (by omega) (by omega) w1 hbel1.size).mono ?_
  rintro e w2 ⟨rp, vb, rfl, hrb, hc2, hp2, hvb2⟩
  have hbel2 := hbel1.trans (hc2.below hbel1.size (fun _ h => h.elim))
  have HB2 := hid (HB1.out.ch hc2 id id (fun _ _ => id))
  have HR2 := hid hrb
  clear hrb
  go_wp2_with fail
  refine (qnew_any w.heap.size p cb _ ⟨List.replicate (n + 4) 0, []⟩ 1 ((n : Int) + 2) 2 n w2 HB2.out (by show (List.replicate (n + 4) (0 : Int)).length ≤ 4096; rw [List.length_replicate]; omega)).mono ?_
  rintro e w3 ⟨hc3, hr3⟩
  rw [show (⟨List.replicate (n + 4) 0, []⟩ : BS).vs = List.replicate (n + 4) 0 from rfl, qerr_freshS hn1 (by omega)] at hr3
  rcases hr3 with ⟨h, _⟩ | ⟨_, qb, hqb, rfl, hqd⟩
  · exact absurd rfl h
  have hbel3 := hbel2.trans (hc3.below hbel2.size (fun _ h => h.elim))
  have HB3 := hid (HB2.out.ch hc3 id id (fun _ _ => id))
  have HR3 := hid (HR2.out.ch hc3 id id (fun _ _ => id))
  have HQ3 := hid hqd
  clear hqd
  go_wp2_with fail
  refine (rqnew_any w.heap.size rp vb _ ⟨List.replicate (n + 4) 0, []⟩ 1 ((n : Int) + 2) 2 n w3 HR3.out (by show (List.replicate (n + 4) (0 : Int)).length ≤ 4096; rw [List.length_replicate]; omega)).mono ?_
  rintro e w4 ⟨hc4, hr4⟩
  rw [show (⟨List.replicate (n + 4) 0, []⟩ : BS).vs = List.replicate (n + 4) 0 from rfl, qerr_freshS hn1 (by omega)] at hr4
  rcases hr4 with ⟨h, _⟩ | ⟨_, rq, hrq, rfl, hrqd⟩
  · exact absurd rfl h
  have hbel4 := hbel3.trans (hc4.below hbel3.size (fun _ h => h.elim))
  have hok : QOk ⟨List.replicate (n + 4) 0, []⟩ (lawS n) := ⟨by show 1 < (List.replicate (n + 4) (0 : Int)).length; rw [List.length_replicate]; omega, by show n + 2 < (List.replicate (n + 4) (0 : Int)).length; rw [List.length_replicate]; omega, by show 2 + n ≤ (List.replicate (n + 4) (0 : Int)).length; rw [List.length_replicate]; omega, hn1, by show n ≤ 64; omega⟩
  have hQ4 : QueueM w.heap.size w4 p cb qb (.slice none 0 0) ⟨List.replicate (n + 4) 0, []⟩ (lawS n) (.pointer none) :=
    ⟨HB3.out.ch hc4 id id (fun _ _ => id), by have h := hc4.blk HQ3.out id; simpa [qdCells, lawS] using h, hok, Nat.le_trans hbel2.size hqb⟩
  have hR4 : RQuM w.heap.size w4 rp vb rq (.slice none 0 0) ⟨List.replicate (n + 4) 0, []⟩ (lawS n) false :=
    ⟨HR3.out.ch hc4 id id (fun _ _ => id), by simpa [rqdCells, lawS] using hrqd, hok, Nat.le_trans hbel3.size hrq⟩
  have HQ4 := hid hQ4
  have HR4 := hid hR4
  have h4B := hbel4.size
  have HBEL := hid hbel4
  clear hQ4 hR4 hrqd hok hc1 hc2 hc3 hc4 hbel1 hbel2 hbel3 hbel4 hp1 hcb1 hp2 hvb2 hqb hrq HB1 HB2 HB3 HR2 HR3 HQ3
  go_wp2_with fail
  go_loopw [11, 12, 13, 14, 15] (fun s1 s2 s3 s4 i wr => ∃ j : Nat, j ≤ len ∧ i = .int .i64 j ∧ QsSo p cb qb rp vb rq n j s1 s2 s3 s4 w wr) (fun _ _ _ _ i _ => len - (intOf i).toNat)
  case atStart => exact ⟨0, Nat.zero_le _, rfl, _, _, _, _, none, rfl, rfl, qs_init hn1 h4B HBEL.out HQ4.out HR4.out⟩
  case round =>
    obtain ⟨j, hj, rfl, lv, mv, s, gp, gq, rfl, rfl, hR⟩ := hrel
    obtain ⟨Ap, cp, hvp, hcp⟩ := own_slice hR.vpr
    obtain ⟨Ar, cr, hvr, hcr⟩ := own_slice hR.vrr
    subst hvp hvr
    have H := hid hR
    clear hR
    by_cases hlt : j < len
    · have hxl := HE.out.1
      obtain ⟨b, off, rfl, hbl, hcell⟩ := HE.out.2.2 (by omega)
      obtain ⟨ev, hev⟩ : ∃ ev, xs[j]? = some ev := ⟨_, List.getElem?_eq_getElem (by omega)⟩
      obtain ⟨ek1, ek2, ek3, ek4⟩ := HE.out.2.1 ev (List.mem_of_getElem? hev)
      have EK3 := hid ek3
      have EK4 := hid ek4
      have c0 := (H.out.mem.bel.cell (p := ⟨b, off + j * 4, none⟩) hbl).trans (hcell j 0 ev _ hev rfl)
      have HC1 := hid (show ∀ W, Below w.heap.size w W → W.cell? ⟨b, off + j * 4 + 1, none⟩ = some (.int .i64 ev.t) from fun W hW => (hW.cell (p := ⟨b, off + j * 4 + 1, none⟩) hbl).trans (hcell j 1 ev _ hev rfl))
      have HC2 := hid (show ∀ W, Below w.heap.size w W → W.cell? ⟨b, off + j * 4 + 2, none⟩ = some (.int .u64 ev.v) from fun W hW => (hW.cell (p := ⟨b, off + j * 4 + 2, none⟩) hbl).trans (hcell j 2 ev _ hev rfl))
      have HC3 := hid (show ∀ W, Below w.heap.size w W → W.cell? ⟨b, off + j * 4 + 3, none⟩ = some (.int .i64 ev.w) from fun W hW => (hW.cell (p := ⟨b, off + j * 4 + 3, none⟩) hbl).trans (hcell j 3 ev _ hev rfl))
      have d1 : decide (j < len) = true := decide_eq_true hlt
      have d1' : decide ((j : Int) < (len : Int)) = true := decide_eq_true (by omega)
      have HN : True := trivial
      clear hev hcell ek2 ek3 ek4
      by_cases h0 : ev.d % 4 = 0
      · have e0 : (ev.d % 4 == 0) = true := by rw [beq_iff_eq]; exact h0
        clear h0
        as_aux_lemma =>
          have c1 := HC1.out _ H.out.mem.bel
          have c2 := HC2.out _ H.out.mem.bel
          by_cases hok : (0 ≤ ev.t ∧ ev.t < 16) ∧ ev.v ≠ 0
          · have HOK := hid hok
            have hgl := H.out.pm
            clear hok
            go_wp2_with fail
            refine Mix.wp_region_mix (fun _ => True) (fun i => ([0, 0, 0, 0, 0, 0, 0, 0, 0, 0, 0, 2, 0, 0, 0, 0, 0] : List Nat).getD i 0) [0, 1, 2, 3, 4, 5, 6, 7, 8, 9, 10, 11, 12, 13, 14, 15, 16] (by kernel_rfl) (by kernel_rfl) ?_
            repeat (first | (refine Mix.mix_q (by simp only [List.getElem?_toArray, List.getElem?_cons_zero, List.getElem?_cons_succ]; exact rfl) rfl ?_; go_big_quiet_step (fail); refine wpQuiet_nil ?_) | (refine Mix.mix_p (by simp only [List.getElem?_toArray, List.getElem?_cons_zero, List.getElem?_cons_succ]; exact rfl) rfl rfl ?_; go_big_quiet_step (fail); refine wpQuiet_nil ?_))
            refine Mix.mix_e (by simp only [List.getElem?_toArray, List.getElem?_cons_zero, List.getElem?_cons_succ]; exact rfl) rfl fun W hW => ?_
            obtain ⟨n1, rfl⟩ := hW
            go_wp2_with fail
            refine calls_world fun Wa hWa => ?_
            have HWa := hid (show RunS w.heap.size p cb qb rp vb rq n j _ _ _ _ _ _ _ w Wa by rw [hWa]; first | exact H.out | exact RunS.drewN (H.out) _ | exact RunS.drewN (RunS.drewN (H.out) _) _)
            clear hWa
            refine (qpush_ok qb _ ev.t ev.v HOK.out.1 HOK.out.2).mono ?_
            rintro e w2 ⟨g, rfl, hb2, ch2, hg2⟩
            have HB2 := hid hb2
            have HCH2 := hid ch2
            have HG2 := hid hg2
            have H2 := hid (HWa.out.keep ch2)
            clear hb2 ch2 hg2 c1 c2
            have c1 := HC1.out _ H2.out.mem.bel
            have c2 := HC2.out _ H2.out.mem.bel
            go_wp2_with fail
            repeat (first | (refine Mix.mix_q (by simp only [List.getElem?_toArray, List.getElem?_cons_zero, List.getElem?_cons_succ]; exact rfl) rfl ?_; go_big_quiet_step (fail); refine wpQuiet_nil ?_) | (refine Mix.mix_p (by simp only [List.getElem?_toArray, List.getElem?_cons_zero, List.getElem?_cons_succ]; exact rfl) rfl rfl ?_; go_big_quiet_step (fail); refine wpQuiet_nil ?_))
            intro n2
            go_wp2_with fail
            refine Mix.wp_region_mix (fun _ => True) (fun i => ([0, 0, 0, 0, 0, 0, 0, 0, 0, 0, 0, 2, 0, 0, 0, 0, 0] : List Nat).getD i 0) [0, 1, 2, 3, 4, 5, 6, 7, 8, 9, 10, 11, 12, 13, 14, 15, 16] (by kernel_rfl) (by kernel_rfl) ?_
            repeat (first | (refine Mix.mix_q (by simp only [List.getElem?_toArray, List.getElem?_cons_zero, List.getElem?_cons_succ]; exact rfl) rfl ?_; go_big_quiet_step (fail); refine wpQuiet_nil ?_) | (refine Mix.mix_p (by simp only [List.getElem?_toArray, List.getElem?_cons_zero, List.getElem?_cons_succ]; exact rfl) rfl rfl ?_; go_big_quiet_step (fail); refine wpQuiet_nil ?_))
            refine Mix.mix_e (by simp only [List.getElem?_toArray, List.getElem?_cons_zero, List.getElem?_cons_succ]; exact rfl) rfl fun W hW => ?_
            obtain ⟨n3, rfl⟩ := hW
            go_wp2_with fail
            refine calls_world fun Wb hWb => ?_
            have HWb := hid (show ∃ m, Wb = w2.drewN m by rw [hWb]; first | exact ⟨_, rfl⟩ | exact ⟨_, World.drewN_drewN _ _ _⟩ | exact ⟨_, (World.drewN_drewN _ _ _).symm⟩)
            clear hWb
            obtain ⟨m2, hm2⟩ := HWb.out
            subst hm2
            clear HWb
            refine (rqpush_ok w.heap.size rp vb rq mv s (lawS n) (lpB gq) _ (H2.out.drewN m2).rm ev.t ev.v HOK.out.1 HOK.out.2).mono ?_
            rintro e w3 ⟨g', rfl, hb3, ch3, hg3⟩
            have M3 := hid (HWa.out.begun HB2.out HCH2.out HG2.out hb3 ch3.ofDrewN hg3)
            clear hb3 ch3 hg3 c1 c2
            go_wp2_with fail
            repeat (first | (refine Mix.mix_q (by simp only [List.getElem?_toArray, List.getElem?_cons_zero, List.getElem?_cons_succ]; exact rfl) rfl ?_; go_big_quiet_step (fail); refine wpQuiet_nil ?_) | (refine Mix.mix_p (by simp only [List.getElem?_toArray, List.getElem?_cons_zero, List.getElem?_cons_succ]; exact rfl) rfl rfl ?_; go_big_quiet_step (fail); refine wpQuiet_nil ?_))
            intro n4
            obtain ⟨ip0, ip1, ip2, ip3, ip4⟩ := info_parts (show (Try.prog.info? 52).map (fun i => (i.zero, i.size, i.bytes)) = some (some (.pointer none), 1, 8) by kernel_rfl)
            obtain ⟨ir0, ir1, ir2, ir3, ir4⟩ := info_parts (show (Try.prog.info? 72).map (fun i => (i.zero, i.size, i.bytes)) = some (some (.pointer none), 1, 8) by kernel_rfl)
            have M4 := hid (M3.out.drewN n4)
            have hown1 : (w3.drewN n4).ownsRow w.heap.size 52 1 (.slice Ap gp.length cp) gp.length (ptrV (gp.map Prod.fst)) := M4.out.each 4 _ rfl
            go_wp2_with (at_builtin; refine wpList_app _ rfl (.tmp 202) (.tmp 204) 48 rfl w.heap.size 52 ip0 _ 1 8 Try.underlying48 ip1 ip2 ip3 ip4 rfl (by decide) _ _ _ rfl (hown1.alloc _) ⟨w3.heap.size, 0, none⟩ 1 1 [.pointer (some ⟨g, 0, none⟩)] rfl rfl ?c1 ?c2 (by decide) ?c3 ?c4 ?c5 ?c6)
            case c1 => intro j' u hu; rw [addr_add0]; exact ((Blk.new _ 52 #[.pointer (some ⟨g, 0, none⟩)]).cell j').trans (by simpa using hu)
            case c2 => intro u hu; simp at hu; subst hu; rfl
            case c3 => unfold maxLen; omega
            case c4 => omega
            case c5 => exact (M4.out.alloc _).bz
            case c6 =>
              intro v6 w6 hown' hgrow hfresh
              have M6 := hid ((M4.out.alloc (.cells #[.pointer (some ⟨g, 0, none⟩)] 52)).app (i := 4) (n' := gp.length + 1) (xs' := ptrV (gp.map Prod.fst ++ [g])) rfl (by simpa [ptrV] using hown') hgrow hfresh)
              have hown2 : w6.ownsRow w.heap.size 72 1 (.slice Ar gp.length cr) gp.length (ptrV (gp.map fun y => y.2.1)) := M6.out.each 5 _ rfl
              clear hown1 hown' hgrow hfresh
              go_wp2_with (at_builtin; refine wpList_app _ rfl (.tmp 206) (.tmp 208) 70 rfl w.heap.size 72 ir0 _ 1 8 Try.underlying70 ir1 ir2 ir3 ir4 rfl (by decide) _ _ _ rfl (hown2.alloc _) ⟨w6.heap.size, 0, none⟩ 1 1 [.pointer (some ⟨g', 0, none⟩)] rfl rfl ?c1 ?c2 (by decide) ?c3 ?c4 ?c5 ?c6)
              case c1 => intro j' u hu; rw [addr_add0]; exact ((Blk.new _ 72 #[.pointer (some ⟨g', 0, none⟩)]).cell j').trans (by simpa using hu)
              case c2 => intro u hu; simp at hu; subst hu; rfl
              case c3 => unfold maxLen; omega
              case c4 => omega
              case c5 => exact (M6.out.alloc _).bz
              case c6 =>
                intro v7 w7 hown' hgrow hfresh
                have t7 := (M6.out.alloc (.cells #[.pointer (some ⟨g', 0, none⟩)] 72)).app (i := 5) (n' := gp.length + 1) (xs' := ptrV ((gp.map fun y => y.2.1) ++ [g'])) rfl (by simpa [ptrV] using hown') hgrow hfresh
                have H7 := hid (H.out.pushed (q := ⟨ev.t, ev.v, 0, 0, 4, 0⟩) ⟨HOK.out.1, EK3.out, ⟨Int.le_refl _, by show (0 : Int) ≤ _; omega⟩, .inr (.inl rfl)⟩ (by omega) t7)
                clear hown2 hown' hgrow hfresh t7
                go_wp2_with fail
                refine calls_world fun Wa hWa => ?_
                have HWa := hid (show RunS w.heap.size p cb qb rp vb rq n (j + 1) _ _ _ _ _ _ _ w Wa by rw [hWa]; first | exact H7.out | exact RunS.drewN (H7.out) _ | exact RunS.drewN (RunS.drewN (H7.out) _) _)
                clear hWa
                refine (qlen2_any w.heap.size p cb qb _ _ _ _ Wa HWa.out.qm (bnd6 HWa.out.si.h HWa.out.hM) (bnd6 HWa.out.si.t HWa.out.hM)).mono ?_
                rintro e Wb ⟨rfl, n1, rfl⟩
                have bl : ((qT s (lawS n) - qH s (lawS n)) != (qT s (lawS n) - qH s (lawS n))) = false := by simp
                go_wp2_with fail
                refine calls_world fun Wb hWb => ?_
                have HWb := hid (show RunS w.heap.size p cb qb rp vb rq n (j + 1) _ _ _ _ _ _ _ w Wb by rw [hWb]; first | exact HWa.out | exact RunS.drewN (HWa.out) _ | exact RunS.drewN (RunS.drewN (HWa.out) _) _)
                clear hWb
                refine (rqlen_any w.heap.size rp vb rq _ _ _ _ Wb HWb.out.rm (bnd6 HWb.out.si.h HWb.out.hM) (bnd6 HWb.out.si.t HWb.out.hM)).mono ?_
                rintro e Wc ⟨rfl, n2, rfl⟩
                go_wp2_with fail
                refine calls_world fun Wc hWc => ?_
                have HWc := hid (show RunS w.heap.size p cb qb rp vb rq n (j + 1) _ _ _ _ _ _ _ w Wc by rw [hWc]; first | exact HWb.out | exact RunS.drewN (HWb.out) _ | exact RunS.drewN (RunS.drewN (HWb.out) _) _)
                clear hWc
                refine (qlist2_any w.heap.size p cb qb _ _ _ _ Wc HWc.out.qm (bnd6 HWc.out.si.h HWc.out.hM) (bnd6 HWc.out.si.t HWc.out.hM)).mono ?_
                rintro e Wd ⟨v1, rfl, hr1, c1⟩
                obtain ⟨B1, k1, hv1, _⟩ := own_slice hr1
                subst hv1
                have HD := hid (HWc.out.keep c1)
                have HR1 := hid hr1
                clear hr1 c1
                go_wp2_with fail
                refine (rqlist_any w.heap.size rp vb rq _ _ _ _ Wd HD.out.rm (bnd6 HD.out.si.h HD.out.hM) (bnd6 HD.out.si.t HD.out.hM)).mono ?_
                rintro e We ⟨v2, rfl, hr2, c2⟩
                obtain ⟨B2, k2, hv2, _⟩ := own_slice hr2
                subst hv2
                have HE2 := hid (HD.out.keep c2)
                have HR1b := hid (c2.own HR1.out (fun _ _ => id))
                have HR2 := hid hr2
                clear hr2 c2
                go_wp2_with fail
                refine (eqWords_any _ _ _ _ _ _ _ _ We (same_of_own HR1b.out (Nat.le_refl _)) (same_of_own HR2.out (Nat.le_refl _)) (qlist_lenS HE2.out.si HE2.out.hM)).mono ?_
                rintro e Wf ⟨he, n5, rfl⟩
                rw [decide_eq_true rfl] at he
                subst he
                go_wp2_with fail
                go_roundw
                case rel => exact ⟨j + 1, by omega, by go_num, _, _, _, _, _, rfl, rfl, HE2.out.drewN n5⟩
                case measure => simp [intOf]; omega
          · have hbad : ev.t < 0 ∨ 16 ≤ ev.t ∨ ev.v = 0 := by omega
            have HBAD := hid hbad
            clear hok hbad
            go_wp2_with fail
            refine Mix.wp_region_mix (fun _ => True) (fun i => ([0, 0, 0, 0, 0, 0, 0, 0, 0, 0, 0, 2, 0, 0, 0, 0, 0] : List Nat).getD i 0) [0, 1, 2, 3, 4, 5, 6, 7, 8, 9, 10, 11, 12, 13, 14, 15, 16] (by kernel_rfl) (by kernel_rfl) ?_
            repeat (first | (refine Mix.mix_q (by simp only [List.getElem?_toArray, List.getElem?_cons_zero, List.getElem?_cons_succ]; exact rfl) rfl ?_; go_big_quiet_step (fail); refine wpQuiet_nil ?_) | (refine Mix.mix_p (by simp only [List.getElem?_toArray, List.getElem?_cons_zero, List.getElem?_cons_succ]; exact rfl) rfl rfl ?_; go_big_quiet_step (fail); refine wpQuiet_nil ?_))
            refine Mix.mix_e (by simp only [List.getElem?_toArray, List.getElem?_cons_zero, List.getElem?_cons_succ]; exact rfl) rfl fun W hW => ?_
            obtain ⟨n1, rfl⟩ := hW
            go_wp2_with fail
            refine calls_world fun Wy hWy => ?_
            have HWy := hid (show RunS w.heap.size p cb qb rp vb rq n j _ _ _ _ _ _ _ w Wy by rw [hWy]; first | exact H.out | exact RunS.drewN (H.out) _ | exact RunS.drewN (RunS.drewN (H.out) _) _)
            clear hWy
            refine (qpush_bad qb _ ev.t ev.v HBAD.out).mono ?_
            rintro e w2 ⟨rfl, rfl⟩
            clear c1 c2
            have c1 := HC1.out _ HWy.out.mem.bel
            have c2 := HC2.out _ HWy.out.mem.bel
            go_wp2_with fail
            repeat (first | (refine Mix.mix_q (by simp only [List.getElem?_toArray, List.getElem?_cons_zero, List.getElem?_cons_succ]; exact rfl) rfl ?_; go_big_quiet_step (fail); refine wpQuiet_nil ?_) | (refine Mix.mix_p (by simp only [List.getElem?_toArray, List.getElem?_cons_zero, List.getElem?_cons_succ]; exact rfl) rfl rfl ?_; go_big_quiet_step (fail); refine wpQuiet_nil ?_))
            intro n2
            go_wp2_with fail
            refine Mix.wp_region_mix (fun _ => True) (fun i => ([0, 0, 0, 0, 0, 0, 0, 0, 0, 0, 0, 2, 0, 0, 0, 0, 0] : List Nat).getD i 0) [0, 1, 2, 3, 4, 5, 6, 7, 8, 9, 10, 11, 12, 13, 14, 15, 16] (by kernel_rfl) (by kernel_rfl) ?_
            repeat (first | (refine Mix.mix_q (by simp only [List.getElem?_toArray, List.getElem?_cons_zero, List.getElem?_cons_succ]; exact rfl) rfl ?_; go_big_quiet_step (fail); refine wpQuiet_nil ?_) | (refine Mix.mix_p (by simp only [List.getElem?_toArray, List.getElem?_cons_zero, List.getElem?_cons_succ]; exact rfl) rfl rfl ?_; go_big_quiet_step (fail); refine wpQuiet_nil ?_))
            refine Mix.mix_e (by simp only [List.getElem?_toArray, List.getElem?_cons_zero, List.getElem?_cons_succ]; exact rfl) rfl fun W hW => ?_
            obtain ⟨n3, rfl⟩ := hW
            go_wp2_with fail
            refine calls_world fun Wz hWz => ?_
            have HWz := hid (show RunS w.heap.size p cb qb rp vb rq n j _ _ _ _ _ _ _ w Wz by rw [hWz]; first | exact HWy.out | exact RunS.drewN (HWy.out) _ | exact RunS.drewN (RunS.drewN (HWy.out) _) _)
            clear hWz
            refine (rqpush_bad w.heap.size rp vb rq mv s (lawS n) (lpB gq) _ HWz.out.rm ev.t ev.v HBAD.out).mono ?_
            rintro e w2 ⟨rfl, rfl⟩
            clear c1 c2
            go_wp2_with fail
            repeat (first | (refine Mix.mix_q (by simp only [List.getElem?_toArray, List.getElem?_cons_zero, List.getElem?_cons_succ]; exact rfl) rfl ?_; go_big_quiet_step (fail); refine wpQuiet_nil ?_) | (refine Mix.mix_p (by simp only [List.getElem?_toArray, List.getElem?_cons_zero, List.getElem?_cons_succ]; exact rfl) rfl rfl ?_; go_big_quiet_step (fail); refine wpQuiet_nil ?_))
            intro n4
            go_wp2_with fail
            refine calls_world fun Wa hWa => ?_
            have HWa := hid (show RunS w.heap.size p cb qb rp vb rq n (j + 1) _ _ _ _ _ _ _ w Wa by rw [hWa]; first | exact (HWz.out.drewN n4).mono (by omega) (by omega) | exact RunS.drewN ((HWz.out.drewN n4).mono (by omega) (by omega)) _ | exact RunS.drewN (RunS.drewN ((HWz.out.drewN n4).mono (by omega) (by omega)) _) _)
            clear hWa
            refine (qlen2_any w.heap.size p cb qb _ _ _ _ Wa HWa.out.qm (bnd6 HWa.out.si.h HWa.out.hM) (bnd6 HWa.out.si.t HWa.out.hM)).mono ?_
            rintro e Wb ⟨rfl, n1, rfl⟩
            have bl : ((qT s (lawS n) - qH s (lawS n)) != (qT s (lawS n) - qH s (lawS n))) = false := by simp
            go_wp2_with fail
            refine calls_world fun Wb hWb => ?_
            have HWb := hid (show RunS w.heap.size p cb qb rp vb rq n (j + 1) _ _ _ _ _ _ _ w Wb by rw [hWb]; first | exact HWa.out | exact RunS.drewN (HWa.out) _ | exact RunS.drewN (RunS.drewN (HWa.out) _) _)
            clear hWb
            refine (rqlen_any w.heap.size rp vb rq _ _ _ _ Wb HWb.out.rm (bnd6 HWb.out.si.h HWb.out.hM) (bnd6 HWb.out.si.t HWb.out.hM)).mono ?_
            rintro e Wc ⟨rfl, n2, rfl⟩
            go_wp2_with fail
            refine calls_world fun Wc hWc => ?_
            have HWc := hid (show RunS w.heap.size p cb qb rp vb rq n (j + 1) _ _ _ _ _ _ _ w Wc by rw [hWc]; first | exact HWb.out | exact RunS.drewN (HWb.out) _ | exact RunS.drewN (RunS.drewN (HWb.out) _) _)
            clear hWc
            refine (qlist2_any w.heap.size p cb qb _ _ _ _ Wc HWc.out.qm (bnd6 HWc.out.si.h HWc.out.hM) (bnd6 HWc.out.si.t HWc.out.hM)).mono ?_
            rintro e Wd ⟨v1, rfl, hr1, c1⟩
            obtain ⟨B1, k1, hv1, _⟩ := own_slice hr1
            subst hv1
            have HD := hid (HWc.out.keep c1)
            have HR1 := hid hr1
            clear hr1 c1
            go_wp2_with fail
            refine (rqlist_any w.heap.size rp vb rq _ _ _ _ Wd HD.out.rm (bnd6 HD.out.si.h HD.out.hM) (bnd6 HD.out.si.t HD.out.hM)).mono ?_
            rintro e We ⟨v2, rfl, hr2, c2⟩
            obtain ⟨B2, k2, hv2, _⟩ := own_slice hr2
            subst hv2
            have HE2 := hid (HD.out.keep c2)
            have HR1b := hid (c2.own HR1.out (fun _ _ => id))
            have HR2 := hid hr2
            clear hr2 c2
            go_wp2_with fail
            refine (eqWords_any _ _ _ _ _ _ _ _ We (same_of_own HR1b.out (Nat.le_refl _)) (same_of_own HR2.out (Nat.le_refl _)) (qlist_lenS HE2.out.si HE2.out.hM)).mono ?_
            rintro e Wf ⟨he, n5, rfl⟩
            rw [decide_eq_true rfl] at he
            subst he
            go_wp2_with fail
            go_roundw
            case rel => exact ⟨j + 1, by omega, by go_num, _, _, _, _, _, rfl, rfl, HE2.out.drewN n5⟩
            case measure => simp [intOf]; omega
      have e0 : (ev.d % 4 == 0) = false := by rw [beq_eq_false_iff_ne]; exact h0
      by_cases h1 : ev.d % 4 = 1
      · have e1 : (ev.d % 4 == 1) = true := by rw [beq_iff_eq]; exact h1
        clear h0 h1
        as_aux_lemma =>
          have c1 := HC1.out _ H.out.mem.bel
          by_cases hb : ev.t < 0 ∨ 16 ≤ ev.t
          · have HB := hid hb
            clear hb
            go_wp2_with fail
            refine calls_world fun Wy hWy => ?_
            have HWy := hid (show RunS w.heap.size p cb qb rp vb rq n j _ _ _ _ _ _ _ w Wy by rw [hWy]; first | exact H.out | exact RunS.drewN (H.out) _ | exact RunS.drewN (RunS.drewN (H.out) _) _)
            clear hWy
            refine (qpull_bad w.heap.size p cb qb lv s (lawS n) (lpV gq) _ HWy.out.qm ev.t HB.out).mono ?_
            rintro e w2 ⟨rfl, rfl⟩
            clear c1
            have c1 := HC1.out _ HWy.out.mem.bel
            go_wp2_with fail
            refine calls_world fun Wz hWz => ?_
            have HWz := hid (show RunS w.heap.size p cb qb rp vb rq n j _ _ _ _ _ _ _ w Wz by rw [hWz]; first | exact HWy.out | exact RunS.drewN (HWy.out) _ | exact RunS.drewN (RunS.drewN (HWy.out) _) _)
            clear hWz
            refine (rqpull_bad w.heap.size rp vb rq mv s (lawS n) (lpB gq) _ HWz.out.rm ev.t HB.out).mono ?_
            rintro e w2 ⟨rfl, rfl⟩
            go_wp2_with fail
            refine calls_world fun Wa hWa => ?_
            have HWa := hid (show RunS w.heap.size p cb qb rp vb rq n (j + 1) _ _ _ _ _ _ _ w Wa by rw [hWa]; first | exact HWz.out.mono (by omega) (by omega) | exact RunS.drewN (HWz.out.mono (by omega) (by omega)) _ | exact RunS.drewN (RunS.drewN (HWz.out.mono (by omega) (by omega)) _) _)
            clear hWa
            refine (qlen2_any w.heap.size p cb qb _ _ _ _ Wa HWa.out.qm (bnd6 HWa.out.si.h HWa.out.hM) (bnd6 HWa.out.si.t HWa.out.hM)).mono ?_
            rintro e Wb ⟨rfl, n1, rfl⟩
            have bl : ((qT s (lawS n) - qH s (lawS n)) != (qT s (lawS n) - qH s (lawS n))) = false := by simp
            go_wp2_with fail
            refine calls_world fun Wb hWb => ?_
            have HWb := hid (show RunS w.heap.size p cb qb rp vb rq n (j + 1) _ _ _ _ _ _ _ w Wb by rw [hWb]; first | exact HWa.out | exact RunS.drewN (HWa.out) _ | exact RunS.drewN (RunS.drewN (HWa.out) _) _)
            clear hWb
            refine (rqlen_any w.heap.size rp vb rq _ _ _ _ Wb HWb.out.rm (bnd6 HWb.out.si.h HWb.out.hM) (bnd6 HWb.out.si.t HWb.out.hM)).mono ?_
            rintro e Wc ⟨rfl, n2, rfl⟩
            go_wp2_with fail
            refine calls_world fun Wc hWc => ?_
            have HWc := hid (show RunS w.heap.size p cb qb rp vb rq n (j + 1) _ _ _ _ _ _ _ w Wc by rw [hWc]; first | exact HWb.out | exact RunS.drewN (HWb.out) _ | exact RunS.drewN (RunS.drewN (HWb.out) _) _)
            clear hWc
            refine (qlist2_any w.heap.size p cb qb _ _ _ _ Wc HWc.out.qm (bnd6 HWc.out.si.h HWc.out.hM) (bnd6 HWc.out.si.t HWc.out.hM)).mono ?_
            rintro e Wd ⟨v1, rfl, hr1, c1⟩
            obtain ⟨B1, k1, hv1, _⟩ := own_slice hr1
            subst hv1
            have HD := hid (HWc.out.keep c1)
            have HR1 := hid hr1
            clear hr1 c1
            go_wp2_with fail
            refine (rqlist_any w.heap.size rp vb rq _ _ _ _ Wd HD.out.rm (bnd6 HD.out.si.h HD.out.hM) (bnd6 HD.out.si.t HD.out.hM)).mono ?_
            rintro e We ⟨v2, rfl, hr2, c2⟩
            obtain ⟨B2, k2, hv2, _⟩ := own_slice hr2
            subst hv2
            have HE2 := hid (HD.out.keep c2)
            have HR1b := hid (c2.own HR1.out (fun _ _ => id))
            have HR2 := hid hr2
            clear hr2 c2
            go_wp2_with fail
            refine (eqWords_any _ _ _ _ _ _ _ _ We (same_of_own HR1b.out (Nat.le_refl _)) (same_of_own HR2.out (Nat.le_refl _)) (qlist_lenS HE2.out.si HE2.out.hM)).mono ?_
            rintro e Wf ⟨he, n5, rfl⟩
            rw [decide_eq_true rfl] at he
            subst he
            go_wp2_with fail
            go_roundw
            case rel => exact ⟨j + 1, by omega, by go_num, _, _, _, _, _, rfl, rfl, HE2.out.drewN n5⟩
            case measure => simp [intOf]; omega
          · have ht : 0 ≤ ev.t ∧ ev.t < 16 := by omega
            have HT := hid ht
            clear hb ht
            by_cases hs : lpB gq = true
            · obtain ⟨g, g', q, rfl⟩ : ∃ g g' q, gq = some (g, g', q) := by
                match gq, hs with
                | some (g, g', q), _ => exact ⟨g, g', q, rfl⟩
              have HS := hid hs
              have HF := hid (show q.fin = false by
                rw [(H.out.pl g g' q rfl).fin]
                have hz : (q.ph != 0) = true := hs
                rw [bne_iff_ne] at hz
                rw [beq_eq_false_iff_ne]; exact hz)
              clear hs
              go_wp2_with fail
              refine calls_world fun Wy hWy => ?_
              have HWy := hid (show RunS w.heap.size p cb qb rp vb rq n j _ _ _ _ _ _ _ w Wy by rw [hWy]; first | exact H.out | exact RunS.drewN (H.out) _ | exact RunS.drewN (RunS.drewN (H.out) _) _)
              clear hWy
              refine (qpull_busy w.heap.size p cb qb lv s (lawS n) (lpV (some (g, g', q))) _ HWy.out.qm ev.t HT.out g q rfl (HWy.out.mem.each 2 _ rfl) HF.out).mono ?_
              rintro e w2 ⟨rfl, rfl⟩
              clear c1
              have c1 := HC1.out _ HWy.out.mem.bel
              go_wp2_with fail
              refine calls_world fun Wz hWz => ?_
              have HWz := hid (show RunS w.heap.size p cb qb rp vb rq n j _ _ _ _ _ _ _ w Wz by rw [hWz]; first | exact HWy.out | exact RunS.drewN (HWy.out) _ | exact RunS.drewN (RunS.drewN (HWy.out) _) _)
              clear hWz
              refine (rqpull_busy w.heap.size rp vb rq mv s (lawS n) (lpB (some (g, g', q))) _ HWz.out.rm ev.t HT.out HS.out).mono ?_
              rintro e w2 ⟨rfl, rfl⟩
              go_wp2_with fail
              refine calls_world fun Wa hWa => ?_
              have HWa := hid (show RunS w.heap.size p cb qb rp vb rq n (j + 1) _ _ _ _ _ _ _ w Wa by rw [hWa]; first | exact HWz.out.mono (by omega) (by omega) | exact RunS.drewN (HWz.out.mono (by omega) (by omega)) _ | exact RunS.drewN (RunS.drewN (HWz.out.mono (by omega) (by omega)) _) _)
              clear hWa
              refine (qlen2_any w.heap.size p cb qb _ _ _ _ Wa HWa.out.qm (bnd6 HWa.out.si.h HWa.out.hM) (bnd6 HWa.out.si.t HWa.out.hM)).mono ?_
              rintro e Wb ⟨rfl, n1, rfl⟩
              have bl : ((qT s (lawS n) - qH s (lawS n)) != (qT s (lawS n) - qH s (lawS n))) = false := by simp
              go_wp2_with fail
              refine calls_world fun Wb hWb => ?_
              have HWb := hid (show RunS w.heap.size p cb qb rp vb rq n (j + 1) _ _ _ _ _ _ _ w Wb by rw [hWb]; first | exact HWa.out | exact RunS.drewN (HWa.out) _ | exact RunS.drewN (RunS.drewN (HWa.out) _) _)
              clear hWb
              refine (rqlen_any w.heap.size rp vb rq _ _ _ _ Wb HWb.out.rm (bnd6 HWb.out.si.h HWb.out.hM) (bnd6 HWb.out.si.t HWb.out.hM)).mono ?_
              rintro e Wc ⟨rfl, n2, rfl⟩
              go_wp2_with fail
              refine calls_world fun Wc hWc => ?_
              have HWc := hid (show RunS w.heap.size p cb qb rp vb rq n (j + 1) _ _ _ _ _ _ _ w Wc by rw [hWc]; first | exact HWb.out | exact RunS.drewN (HWb.out) _ | exact RunS.drewN (RunS.drewN (HWb.out) _) _)
              clear hWc
              refine (qlist2_any w.heap.size p cb qb _ _ _ _ Wc HWc.out.qm (bnd6 HWc.out.si.h HWc.out.hM) (bnd6 HWc.out.si.t HWc.out.hM)).mono ?_
              rintro e Wd ⟨v1, rfl, hr1, c1⟩
              obtain ⟨B1, k1, hv1, _⟩ := own_slice hr1
              subst hv1
              have HD := hid (HWc.out.keep c1)
              have HR1 := hid hr1
              clear hr1 c1
              go_wp2_with fail
              refine (rqlist_any w.heap.size rp vb rq _ _ _ _ Wd HD.out.rm (bnd6 HD.out.si.h HD.out.hM) (bnd6 HD.out.si.t HD.out.hM)).mono ?_
              rintro e We ⟨v2, rfl, hr2, c2⟩
              obtain ⟨B2, k2, hv2, _⟩ := own_slice hr2
              subst hv2
              have HE2 := hid (HD.out.keep c2)
              have HR1b := hid (c2.own HR1.out (fun _ _ => id))
              have HR2 := hid hr2
              clear hr2 c2
              go_wp2_with fail
              refine (eqWords_any _ _ _ _ _ _ _ _ We (same_of_own HR1b.out (Nat.le_refl _)) (same_of_own HR2.out (Nat.le_refl _)) (qlist_lenS HE2.out.si HE2.out.hM)).mono ?_
              rintro e Wf ⟨he, n5, rfl⟩
              rw [decide_eq_true rfl] at he
              subst he
              go_wp2_with fail
              go_roundw
              case rel => exact ⟨j + 1, by omega, by go_num, _, _, _, _, _, rfl, rfl, HE2.out.drewN n5⟩
              case measure => simp [intOf]; omega
            · have HS := hid (show lpB gq = false by simpa using hs)
              clear hs
              go_wp2_with fail
              refine calls_world fun Wy hWy => ?_
              have HWy := hid (show RunS w.heap.size p cb qb rp vb rq n j _ _ _ _ _ _ _ w Wy by rw [hWy]; first | exact H.out | exact RunS.drewN (H.out) _ | exact RunS.drewN (RunS.drewN (H.out) _) _)
              clear hWy
              refine (qpull_ok w.heap.size p cb qb lv s (lawS n) (lpV gq) _ HWy.out.qm ev.t HT.out (HWy.out.rests HS.out)).mono ?_
              rintro e w2 ⟨g, rfl, hM2, hq2, ch2, hg2⟩
              have M2 := hid (HWy.out.pullI hM2 hq2 ch2 hg2)
              clear hM2 hq2 ch2 hg2 c1
              have c1 := HC1.out _ M2.out.bel
              go_wp2_with fail
              refine calls_world fun Wz hWz => ?_
              have M3 := hid (show Mem w.heap.size w _ Wz by rw [hWz]; first | exact M2.out | exact M2.out.drewN _)
              clear hWz
              refine (rqpull_ok w.heap.size rp vb rq mv s (lawS n) (lpB gq) Wz (M3.out.each 1 _ rfl) ev.t HT.out HS.out (qH s (lawS n))).mono ?_
              rintro e w3 ⟨g', rfl, hM3, hq3, ch3, hg3⟩
              have M4 := RunS.pullR M3.out hM3 hq3 ch3 hg3
              have H5 := hid (HWy.out.pulled ⟨HT.out, H.out.si.h, .inr ⟨.inl rfl, rfl⟩, rfl⟩ rfl M4)
              clear hM3 hq3 ch3 hg3 M4 c1
              go_wp2_with fail
              refine calls_world fun Wa hWa => ?_
              have HWa := hid (show RunS w.heap.size p cb qb rp vb rq n (j + 1) _ _ _ _ _ _ _ w Wa by rw [hWa]; first | exact H5.out.mono (by omega) (by omega) | exact RunS.drewN (H5.out.mono (by omega) (by omega)) _ | exact RunS.drewN (RunS.drewN (H5.out.mono (by omega) (by omega)) _) _)
              clear hWa
              refine (qlen2_any w.heap.size p cb qb _ _ _ _ Wa HWa.out.qm (bnd6 HWa.out.si.h HWa.out.hM) (bnd6 HWa.out.si.t HWa.out.hM)).mono ?_
              rintro e Wb ⟨rfl, n1, rfl⟩
              have bl : ((qT s (lawS n) - qH s (lawS n)) != (qT s (lawS n) - qH s (lawS n))) = false := by simp
              go_wp2_with fail
              refine calls_world fun Wb hWb => ?_
              have HWb := hid (show RunS w.heap.size p cb qb rp vb rq n (j + 1) _ _ _ _ _ _ _ w Wb by rw [hWb]; first | exact HWa.out | exact RunS.drewN (HWa.out) _ | exact RunS.drewN (RunS.drewN (HWa.out) _) _)
              clear hWb
              refine (rqlen_any w.heap.size rp vb rq _ _ _ _ Wb HWb.out.rm (bnd6 HWb.out.si.h HWb.out.hM) (bnd6 HWb.out.si.t HWb.out.hM)).mono ?_
              rintro e Wc ⟨rfl, n2, rfl⟩
              go_wp2_with fail
              refine calls_world fun Wc hWc => ?_
              have HWc := hid (show RunS w.heap.size p cb qb rp vb rq n (j + 1) _ _ _ _ _ _ _ w Wc by rw [hWc]; first | exact HWb.out | exact RunS.drewN (HWb.out) _ | exact RunS.drewN (RunS.drewN (HWb.out) _) _)
              clear hWc
              refine (qlist2_any w.heap.size p cb qb _ _ _ _ Wc HWc.out.qm (bnd6 HWc.out.si.h HWc.out.hM) (bnd6 HWc.out.si.t HWc.out.hM)).mono ?_
              rintro e Wd ⟨v1, rfl, hr1, c1⟩
              obtain ⟨B1, k1, hv1, _⟩ := own_slice hr1
              subst hv1
              have HD := hid (HWc.out.keep c1)
              have HR1 := hid hr1
              clear hr1 c1
              go_wp2_with fail
              refine (rqlist_any w.heap.size rp vb rq _ _ _ _ Wd HD.out.rm (bnd6 HD.out.si.h HD.out.hM) (bnd6 HD.out.si.t HD.out.hM)).mono ?_
              rintro e We ⟨v2, rfl, hr2, c2⟩
              obtain ⟨B2, k2, hv2, _⟩ := own_slice hr2
              subst hv2
              have HE2 := hid (HD.out.keep c2)
              have HR1b := hid (c2.own HR1.out (fun _ _ => id))
              have HR2 := hid hr2
              clear hr2 c2
              go_wp2_with fail
              refine (eqWords_any _ _ _ _ _ _ _ _ We (same_of_own HR1b.out (Nat.le_refl _)) (same_of_own HR2.out (Nat.le_refl _)) (qlist_lenS HE2.out.si HE2.out.hM)).mono ?_
              rintro e Wf ⟨he, n5, rfl⟩
              rw [decide_eq_true rfl] at he
              subst he
              go_wp2_with fail
              go_roundw
              case rel => exact ⟨j + 1, by omega, by go_num, _, _, _, _, _, rfl, rfl, HE2.out.drewN n5⟩
              case measure => simp [intOf]; omega
      have e1 : (ev.d % 4 == 1) = false := by rw [beq_eq_false_iff_ne]; exact h1
      by_cases h2 : ev.d % 4 = 2
      · have e2 : (ev.d % 4 == 2) = true := by rw [beq_iff_eq]; exact h2
        clear h0 h1 h2
        as_aux_lemma =>
          by_cases hz : gp.length = 0
          · have dz : ((gp.length : Int) == 0) = true := by rw [beq_iff_eq]; omega
            have dz' : (gp.length == 0) = true := by rw [beq_iff_eq]; omega
            clear hz
            go_wp2_with fail
            go_roundw
            case rel => exact ⟨j + 1, by omega, by go_num, _, _, _, _, _, rfl, rfl, H.out.mono (by omega) (by omega)⟩
            case measure => simp [intOf]; omega
          · have dz : ((gp.length : Int) == 0) = false := by rw [beq_eq_false_iff_ne]; omega
            have dz' : (gp.length == 0) = false := by rw [beq_eq_false_iff_ne]; omega
            have c3 := HC3.out _ H.out.mem.bel
            have hgl := H.out.pm
            go_wp2_with fail
            refine calls_world fun Wa hWa => ?_
            have HWa := hid (show RunS w.heap.size p cb qb rp vb rq n j _ _ _ _ _ _ _ w Wa by rw [hWa]; first | exact H.out | exact RunS.drewN (H.out) _ | exact RunS.drewN (RunS.drewN (H.out) _) _)
            clear hWa
            refine (index_any ev.w gp.length Wa EK4.out (by omega) (by omega)).mono ?_
            rintro e w2 ⟨rfl, rfl⟩
            obtain ⟨k, hk⟩ : ∃ k : Nat, ev.w % (gp.length : Int) = k := ⟨(ev.w % (gp.length : Int)).toNat, by have := Int.emod_nonneg ev.w (show (gp.length : Int) ≠ 0 by omega); omega⟩
            have hkm : k < gp.length := by have := Int.emod_lt_of_pos ev.w (show (0 : Int) < (gp.length : Int) by omega); omega
            rw [hk]
            obtain ⟨⟨g, g', q⟩, hgk⟩ : ∃ x, gp[k]? = some x := ⟨_, List.getElem?_eq_getElem hkm⟩
            have hgk1 : (gp.map Prod.fst)[k]? = some g := by simp [hgk]
            have hgk2 : (gp.map fun y => y.2.1)[k]? = some g' := by simp [hgk]
            obtain ⟨gv, cv, hvp, _, _, kv, fv⟩ := own_at HWa.out.vpr (ptrV_at hgk1)
            obtain ⟨gv2, cv2, hvr, _, _, kv2, fv2⟩ := own_at HWa.out.vrr (ptrV_at hgk2)
            injection hvp with hvp _ hcv1
            injection hvr with hvr _ hcv2
            subst hvp hvr hcv1 hcv2
            have dk : decide (k < gp.length) = true := decide_eq_true hkm
            have dki : decide ((k : Int) < (gp.length : Int)) = true := decide_eq_true (by omega)
            have HGK := hid hgk
            have HG1 := hid hgk1
            have HG2 := hid hgk2
            have PI := hid (HWa.out.pu k g g' q hgk)
            have HQ := hid (HWa.out.push hgk).1
            have HRQ := hid (HWa.out.push hgk).2
            have HUR : True := trivial
            have HRUR : True := trivial
            have bq : (q.ph != q.ph) = false := by simp
            have HKM := hid hkm
            clear hk hgk hgk1 hgk2 fv fv2 c3 hz hkm dz dz'
            go_wp2_with fail
            go_quiet ((first | (go_at_call 24; exact un_q HQ.out _) | (go_at_call 35; exact run_q HRQ.out _) | (go_at_call 25; exact HUR.out _) | (go_at_call 37; exact HRUR.out _)))
            clear HQ HRQ bq
            have HX := hid (HWa.out.drewN nq)
            go_wp2_with fail
            refine calls_world fun Wb hWb => ?_
            have HWb := hid (show RunS w.heap.size p cb qb rp vb rq n j _ _ _ _ _ _ _ w Wb by rw [hWb]; first | exact HX.out | exact RunS.drewN (HX.out) _ | exact RunS.drewN (RunS.drewN (HX.out) _) _)
            clear hWb
            refine (ustep_any w.heap.size p cb qb g lv s (lawS n) (lpV gq) q Wb HWb.out.qm (HWb.out.push HGK.out).1 PI.out.t (by have := HWb.out.si.lg; omega) HWb.out.mem.bz PI.out.v ⟨PI.out.fr.1, by have := PI.out.fr.2; omega⟩ PI.out.ph).mono ?_
            rintro e w2 ⟨rfl, lv', hM2, hq2, ch2, hf2⟩
            have M2 := hid (HWb.out.stepI HGK.out hM2 hq2 ch2 hf2)
            clear hM2 hq2 ch2 hf2 kv kv2
            have kv2 := own_cell (M2.out.each 5 _ rfl) (ptrV_at HG2.out)
            go_wp2_with fail
            refine calls_world fun Wc hWc => ?_
            have M2c := hid (show Mem w.heap.size w _ Wc by rw [hWc]; first | exact M2.out | exact M2.out.drewN _)
            clear hWc
            refine (rustep_any w.heap.size rp vb rq g' mv s (lawS n) (lpB gq) q Wc (M2c.out.each 1 _ rfl) (show Blk _ _ _ _ from (M2c.out.each (6 + k) (pairX qb rq g g' (pustep s (lawS n) q).2 q) (qs_at (by simp [HKM.out]))).2) PI.out.t (by have := HWb.out.si.lg; omega) M2c.out.bz PI.out.ph ⟨PI.out.fr.1, by have := PI.out.fr.2; omega⟩ HWb.out.si.h.1).mono ?_
            rintro e w3 ⟨rfl, mv', hM3, hq3, ch3, hf3⟩
            have M3 := HWb.out.stepR HGK.out M2c.out hM3 hq3 ch3 hf3
            have kv := own_cell (M3.each 4 _ rfl) (ptrV_at HG1.out)
            have kv2 := own_cell (M3.each 5 _ rfl) (ptrV_at HG2.out)
            have H4 := HWb.out.stepped (s' := (pustep s (lawS n) q).1) (q' := (pustep s (lawS n) q).2) HGK.out (by omega) rfl M3
            obtain ⟨oo, hoo⟩ : ∃ oo, oo = pustep s (lawS n) q := ⟨_, rfl⟩
            rw [← hoo] at H4 ⊢
            have bo : ((oo.2.ph == 0) != (oo.2.ph == 0)) = false := by simp
            have bo2 : (oo.2.ph != oo.2.ph) = false := by simp
            obtain ⟨rr, hrr⟩ : ∃ rr : Int, rr = if oo.2.ph = 0 then oo.2.er else 8 := ⟨_, rfl⟩
            have br : (rr != rr) = false := by simp
            have HP4 := hid (H4.push (k := k) (g := g) (g' := g') (q := oo.2) (by simp [HKM.out]))
            have HQ := hid HP4.out.1
            have HRQ := hid HP4.out.2
            have HUR := hid (show ∀ k, Calls Try.prog 25 #[.pointer (some ⟨g, 0, none⟩)] (w3.drewN k) fun e w'' => e = .returned (.int .i64 rr) ∧ ∃ m, w'' = w3.drewN m from fun k => by rw [hrr]; exact ur_q HQ.out k)
            have HRUR := hid (show ∀ k, Calls Try.prog 37 #[.pointer (some ⟨g', 0, none⟩)] (w3.drewN k) fun e w'' => e = .returned (.int .i64 rr) ∧ ∃ m, w'' = w3.drewN m from fun k => by rw [hrr]; exact rur_q HRQ.out k)
            have bq : (q.ph != q.ph) = false := by simp
            have H4 := hid H4
            clear hM3 hq3 ch3 hf3 M3 hoo hrr
            go_wp2_with fail
            go_quiet ((first | (go_at_call 24; exact un_q HQ.out _) | (go_at_call 35; exact run_q HRQ.out _) | (go_at_call 25; exact HUR.out _) | (go_at_call 37; exact HRUR.out _)))
            have H5 := hid (H4.out.drewN nq)
            clear kv kv2 HQ HRQ HUR HRUR HP4
            go_wp2_with fail
            refine calls_world fun Wa hWa => ?_
            have HWa := hid (show RunS w.heap.size p cb qb rp vb rq n (j + 1) _ _ _ _ _ _ _ w Wa by rw [hWa]; first | exact H5.out | exact RunS.drewN (H5.out) _ | exact RunS.drewN (RunS.drewN (H5.out) _) _)
            clear hWa
            refine (qlen2_any w.heap.size p cb qb _ _ _ _ Wa HWa.out.qm (bnd6 HWa.out.si.h HWa.out.hM) (bnd6 HWa.out.si.t HWa.out.hM)).mono ?_
            rintro e Wb ⟨rfl, n1, rfl⟩
            have bl : ((qT oo.1 (lawS n) - qH oo.1 (lawS n)) != (qT oo.1 (lawS n) - qH oo.1 (lawS n))) = false := by simp
            go_wp2_with fail
            refine calls_world fun Wb hWb => ?_
            have HWb := hid (show RunS w.heap.size p cb qb rp vb rq n (j + 1) _ _ _ _ _ _ _ w Wb by rw [hWb]; first | exact HWa.out | exact RunS.drewN (HWa.out) _ | exact RunS.drewN (RunS.drewN (HWa.out) _) _)
            clear hWb
            refine (rqlen_any w.heap.size rp vb rq _ _ _ _ Wb HWb.out.rm (bnd6 HWb.out.si.h HWb.out.hM) (bnd6 HWb.out.si.t HWb.out.hM)).mono ?_
            rintro e Wc ⟨rfl, n2, rfl⟩
            go_wp2_with fail
            refine calls_world fun Wc hWc => ?_
            have HWc := hid (show RunS w.heap.size p cb qb rp vb rq n (j + 1) _ _ _ _ _ _ _ w Wc by rw [hWc]; first | exact HWb.out | exact RunS.drewN (HWb.out) _ | exact RunS.drewN (RunS.drewN (HWb.out) _) _)
            clear hWc
            refine (qlist2_any w.heap.size p cb qb _ _ _ _ Wc HWc.out.qm (bnd6 HWc.out.si.h HWc.out.hM) (bnd6 HWc.out.si.t HWc.out.hM)).mono ?_
            rintro e Wd ⟨v1, rfl, hr1, c1⟩
            obtain ⟨B1, k1, hv1, _⟩ := own_slice hr1
            subst hv1
            have HD := hid (HWc.out.keep c1)
            have HR1 := hid hr1
            clear hr1 c1
            go_wp2_with fail
            refine (rqlist_any w.heap.size rp vb rq _ _ _ _ Wd HD.out.rm (bnd6 HD.out.si.h HD.out.hM) (bnd6 HD.out.si.t HD.out.hM)).mono ?_
            rintro e We ⟨v2, rfl, hr2, c2⟩
            obtain ⟨B2, k2, hv2, _⟩ := own_slice hr2
            subst hv2
            have HE2 := hid (HD.out.keep c2)
            have HR1b := hid (c2.own HR1.out (fun _ _ => id))
            have HR2 := hid hr2
            clear hr2 c2
            go_wp2_with fail
            refine (eqWords_any _ _ _ _ _ _ _ _ We (same_of_own HR1b.out (Nat.le_refl _)) (same_of_own HR2.out (Nat.le_refl _)) (qlist_lenS HE2.out.si HE2.out.hM)).mono ?_
            rintro e Wf ⟨he, n5, rfl⟩
            rw [decide_eq_true rfl] at he
            subst he
            go_wp2_with fail
            go_roundw
            case rel => exact ⟨j + 1, by omega, by go_num, _, _, _, _, _, rfl, rfl, HE2.out.drewN n5⟩
            case measure => simp [intOf]; omega
      have e2 : (ev.d % 4 == 2) = false := by rw [beq_eq_false_iff_ne]; exact h2
      clear h0 h1 h2
      as_aux_lemma =>
        match gq, H, HN with
        | none, H, HN =>
          go_wp2_with fail
          refine calls_world fun Wg hWg => ?_
          have HWg := hid (show RunS w.heap.size p cb qb rp vb rq n j _ _ _ _ _ _ _ w Wg by rw [hWg]; first | exact H.out | exact RunS.drewN (H.out) _ | exact RunS.drewN (RunS.drewN (H.out) _) _)
          clear hWg
          refine (lnext_nil _).mono ?_
          rintro e w2 ⟨rfl, rfl⟩
          go_wp2_with fail
          refine calls_world fun Wh hWh => ?_
          have HWh := hid (show RunS w.heap.size p cb qb rp vb rq n j _ _ _ _ _ _ _ w Wh by rw [hWh]; first | exact HWg.out | exact RunS.drewN (HWg.out) _ | exact RunS.drewN (RunS.drewN (HWg.out) _) _)
          clear hWh
          refine (rlnext_nil _).mono ?_
          rintro e w2 ⟨rfl, rfl⟩
          go_wp2_with fail
          refine calls_world fun Wi hWi => ?_
          have HWi := hid (show RunS w.heap.size p cb qb rp vb rq n j _ _ _ _ _ _ _ w Wi by rw [hWi]; first | exact HWh.out | exact RunS.drewN (HWh.out) _ | exact RunS.drewN (RunS.drewN (HWh.out) _) _)
          clear hWi
          refine (lstep_nil _).mono ?_
          rintro e w2 ⟨rfl, rfl⟩
          go_wp2_with fail
          refine calls_world fun Wj hWj => ?_
          have HWj := hid (show RunS w.heap.size p cb qb rp vb rq n j _ _ _ _ _ _ _ w Wj by rw [hWj]; first | exact HWi.out | exact RunS.drewN (HWi.out) _ | exact RunS.drewN (RunS.drewN (HWi.out) _) _)
          clear hWj
          refine (rlstep_nil _).mono ?_
          rintro e w2 ⟨rfl, rfl⟩
          go_wp2_with fail
          refine calls_world fun Wk hWk => ?_
          have HWk := hid (show RunS w.heap.size p cb qb rp vb rq n j _ _ _ _ _ _ _ w Wk by rw [hWk]; first | exact HWj.out | exact RunS.drewN (HWj.out) _ | exact RunS.drewN (RunS.drewN (HWj.out) _) _)
          clear hWk
          refine (lres_nil _).mono ?_
          rintro e w2 ⟨rfl, rfl⟩
          go_wp2_with fail
          refine calls_world fun Wl hWl => ?_
          have HWl := hid (show RunS w.heap.size p cb qb rp vb rq n j _ _ _ _ _ _ _ w Wl by rw [hWl]; first | exact HWk.out | exact RunS.drewN (HWk.out) _ | exact RunS.drewN (RunS.drewN (HWk.out) _) _)
          clear hWl
          refine (rlres_nil _).mono ?_
          rintro e w2 ⟨rfl, rfl⟩
          go_wp2_with fail
          refine calls_world fun Wm hWm => ?_
          have HWm := hid (show RunS w.heap.size p cb qb rp vb rq n j _ _ _ _ _ _ _ w Wm by rw [hWm]; first | exact HWl.out | exact RunS.drewN (HWl.out) _ | exact RunS.drewN (RunS.drewN (HWl.out) _) _)
          clear hWm
          refine (lnext_nil _).mono ?_
          rintro e w2 ⟨rfl, rfl⟩
          go_wp2_with fail
          refine calls_world fun Wn hWn => ?_
          have HWn := hid (show RunS w.heap.size p cb qb rp vb rq n j _ _ _ _ _ _ _ w Wn by rw [hWn]; first | exact HWm.out | exact RunS.drewN (HWm.out) _ | exact RunS.drewN (RunS.drewN (HWm.out) _) _)
          clear hWn
          refine (rlnext_nil _).mono ?_
          rintro e w2 ⟨rfl, rfl⟩
          go_wp2_with fail
          refine calls_world fun Wa hWa => ?_
          have HWa := hid (show RunS w.heap.size p cb qb rp vb rq n (j + 1) _ _ _ _ _ _ _ w Wa by rw [hWa]; first | exact HWn.out.mono (by omega) (by omega) | exact RunS.drewN (HWn.out.mono (by omega) (by omega)) _ | exact RunS.drewN (RunS.drewN (HWn.out.mono (by omega) (by omega)) _) _)
          clear hWa
          refine (qlen2_any w.heap.size p cb qb _ _ _ _ Wa HWa.out.qm (bnd6 HWa.out.si.h HWa.out.hM) (bnd6 HWa.out.si.t HWa.out.hM)).mono ?_
          rintro e Wb ⟨rfl, n1, rfl⟩
          have bl : ((qT s (lawS n) - qH s (lawS n)) != (qT s (lawS n) - qH s (lawS n))) = false := by simp
          go_wp2_with fail
          refine calls_world fun Wb hWb => ?_
          have HWb := hid (show RunS w.heap.size p cb qb rp vb rq n (j + 1) _ _ _ _ _ _ _ w Wb by rw [hWb]; first | exact HWa.out | exact RunS.drewN (HWa.out) _ | exact RunS.drewN (RunS.drewN (HWa.out) _) _)
          clear hWb
          refine (rqlen_any w.heap.size rp vb rq _ _ _ _ Wb HWb.out.rm (bnd6 HWb.out.si.h HWb.out.hM) (bnd6 HWb.out.si.t HWb.out.hM)).mono ?_
          rintro e Wc ⟨rfl, n2, rfl⟩
          go_wp2_with fail
          refine calls_world fun Wc hWc => ?_
          have HWc := hid (show RunS w.heap.size p cb qb rp vb rq n (j + 1) _ _ _ _ _ _ _ w Wc by rw [hWc]; first | exact HWb.out | exact RunS.drewN (HWb.out) _ | exact RunS.drewN (RunS.drewN (HWb.out) _) _)
          clear hWc
          refine (qlist2_any w.heap.size p cb qb _ _ _ _ Wc HWc.out.qm (bnd6 HWc.out.si.h HWc.out.hM) (bnd6 HWc.out.si.t HWc.out.hM)).mono ?_
          rintro e Wd ⟨v1, rfl, hr1, c1⟩
          obtain ⟨B1, k1, hv1, _⟩ := own_slice hr1
          subst hv1
          have HD := hid (HWc.out.keep c1)
          have HR1 := hid hr1
          clear hr1 c1
          go_wp2_with fail
          refine (rqlist_any w.heap.size rp vb rq _ _ _ _ Wd HD.out.rm (bnd6 HD.out.si.h HD.out.hM) (bnd6 HD.out.si.t HD.out.hM)).mono ?_
          rintro e We ⟨v2, rfl, hr2, c2⟩
          obtain ⟨B2, k2, hv2, _⟩ := own_slice hr2
          subst hv2
          have HE2 := hid (HD.out.keep c2)
          have HR1b := hid (c2.own HR1.out (fun _ _ => id))
          have HR2 := hid hr2
          clear hr2 c2
          go_wp2_with fail
          refine (eqWords_any _ _ _ _ _ _ _ _ We (same_of_own HR1b.out (Nat.le_refl _)) (same_of_own HR2.out (Nat.le_refl _)) (qlist_lenS HE2.out.si HE2.out.hM)).mono ?_
          rintro e Wf ⟨he, n5, rfl⟩
          rw [decide_eq_true rfl] at he
          subst he
          go_wp2_with fail
          go_roundw
          case rel => exact ⟨j + 1, by omega, by go_num, _, _, _, _, _, rfl, rfl, HE2.out.drewN n5⟩
          case measure => simp [intOf]; omega
        | some (g, g', q), H, HN =>
          have PL := hid (H.out.pl g g' q rfl)
          have bq : (q.ph != q.ph) = false := by simp
          go_wp2_with fail
          refine calls_world fun Wg hWg => ?_
          have HWg := hid (show RunS w.heap.size p cb qb rp vb rq n j _ _ _ _ _ _ _ w Wg by rw [hWg]; first | exact H.out | exact RunS.drewN (H.out) _ | exact RunS.drewN (RunS.drewN (H.out) _) _)
          clear hWg
          refine (lnext_any qb g Wg q (HWg.out.mem.each 2 _ rfl)).mono ?_
          rintro e w2 ⟨rfl, rfl⟩
          go_wp2_with fail
          refine calls_world fun Wh hWh => ?_
          have HWh := hid (show RunS w.heap.size p cb qb rp vb rq n j _ _ _ _ _ _ _ w Wh by rw [hWh]; first | exact HWg.out | exact RunS.drewN (HWg.out) _ | exact RunS.drewN (RunS.drewN (HWg.out) _) _)
          clear hWh
          refine (rlnext_any rq g' Wh q (HWh.out.mem.each 3 _ rfl)).mono ?_
          rintro e w2 ⟨rfl, rfl⟩
          go_wp2_with fail
          refine calls_world fun Wi hWi => ?_
          have HWi := hid (show RunS w.heap.size p cb qb rp vb rq n j _ _ _ _ _ _ _ w Wi by rw [hWi]; first | exact HWh.out | exact RunS.drewN (HWh.out) _ | exact RunS.drewN (RunS.drewN (HWh.out) _) _)
          clear hWi
          refine (lstep_any w.heap.size p cb qb g lv s (lawS n) (lpV (some (g, g', q))) q Wi HWi.out.qm (HWi.out.mem.each 2 _ rfl) PL.out.t (by have := HWi.out.si.lg; omega) HWi.out.mem.bz ⟨PL.out.a.1, by have := PL.out.a.2; omega⟩ (PL.out.ph.imp id (fun e => e.1))).mono ?_
          rintro e w2 ⟨rfl, lv', hM2, hq2, ch2, hf2⟩
          have M2 := hid (HWi.out.lstepI rfl hM2 hq2 ch2 hf2)
          clear hM2 hq2 ch2 hf2
          go_wp2_with fail
          refine calls_world fun Wc hWc => ?_
          have M2c := hid (show Mem w.heap.size w _ Wc by rw [hWc]; first | exact M2.out | exact M2.out.drewN _)
          clear hWc
          refine (rlstep_any w.heap.size rp vb rq g' mv s (lawS n) (lpB (some (g, g', q))) q Wc (M2c.out.each 1 _ rfl) (M2c.out.each 3 _ rfl) PL.out.t (by have := HWi.out.si.lg; omega) M2c.out.bz ⟨HWi.out.si.h.1, by have := HWi.out.si.h.2; omega⟩ PL.out.ph rfl).mono ?_
          rintro e w3 ⟨rfl, mv', hM3, hq3, ch3, hf3⟩
          have M3 := RunS.lstepR rfl M2c.out hM3 hq3 ch3 hf3
          have H4 := HWi.out.lstepped (s' := (plstep s (lawS n) q).1) (q' := (plstep s (lawS n) q).2) rfl (by omega) rfl M3
          obtain ⟨oo, hoo⟩ : ∃ oo, oo = plstep s (lawS n) q := ⟨_, rfl⟩
          rw [← hoo] at H4 ⊢
          have bo : ((oo.2.ph == 0) != (oo.2.ph == 0)) = false := by simp
          have bo2 : (oo.2.ph != oo.2.ph) = false := by simp
          have HPE := hid (plRes_eq (H4.pl g g' oo.2 rfl).fin)
          obtain ⟨rr, hrr⟩ : ∃ rr : Int × Int, rr = (if oo.2.ph = 0 then oo.2.got else 0, if oo.2.ph = 0 then oo.2.er else 8) := ⟨_, rfl⟩
          have HR1 := hid (show (if oo.2.ph = 0 then oo.2.got else 0) = rr.1 by rw [hrr])
          have HR2 := hid (show (if oo.2.ph = 0 then oo.2.er else 8) = rr.2 by rw [hrr])
          have HPR := hid (show plRes oo.2 = rr by rw [hrr]; exact HPE.out)
          have br1 : (rr.1 != rr.1) = false := by simp
          have br2 : (rr.2 != rr.2) = false := by simp
          have H4 := hid H4
          clear hM3 hq3 ch3 hf3 M3 hoo hrr HPE
          go_wp2_with fail
          refine calls_world fun Wk hWk => ?_
          have HWk := hid (show RunS w.heap.size p cb qb rp vb rq n (j + 1) _ _ _ _ _ _ _ w Wk by rw [hWk]; first | exact H4.out | exact RunS.drewN (H4.out) _ | exact RunS.drewN (RunS.drewN (H4.out) _) _)
          clear hWk
          refine (lres_any qb g Wk oo.2 (HWk.out.mem.each 2 _ rfl)).mono ?_
          rintro e w4 ⟨rfl, n4, rfl⟩
          rw [HPR.out]
          go_wp2_with fail
          refine calls_world fun Wl hWl => ?_
          have HWl := hid (show RunS w.heap.size p cb qb rp vb rq n (j + 1) _ _ _ _ _ _ _ w Wl by rw [hWl]; first | exact HWk.out | exact RunS.drewN (HWk.out) _ | exact RunS.drewN (RunS.drewN (HWk.out) _) _)
          clear hWl
          refine (rlres_any rq g' Wl oo.2 (HWl.out.mem.each 3 _ rfl)).mono ?_
          rintro e w4 ⟨rfl, n5, rfl⟩
          rw [HR1.out, HR2.out]
          go_wp2_with fail
          refine calls_world fun Wm hWm => ?_
          have HWm := hid (show RunS w.heap.size p cb qb rp vb rq n (j + 1) _ _ _ _ _ _ _ w Wm by rw [hWm]; first | exact HWl.out | exact RunS.drewN (HWl.out) _ | exact RunS.drewN (RunS.drewN (HWl.out) _) _)
          clear hWm
          refine (lnext_any qb g Wm oo.2 (HWm.out.mem.each 2 _ rfl)).mono ?_
          rintro e w4 ⟨rfl, rfl⟩
          go_wp2_with fail
          refine calls_world fun Wn hWn => ?_
          have HWn := hid (show RunS w.heap.size p cb qb rp vb rq n (j + 1) _ _ _ _ _ _ _ w Wn by rw [hWn]; first | exact HWm.out | exact RunS.drewN (HWm.out) _ | exact RunS.drewN (RunS.drewN (HWm.out) _) _)
          clear hWn
          refine (rlnext_any rq g' Wn oo.2 (HWn.out.mem.each 3 _ rfl)).mono ?_
          rintro e w4 ⟨rfl, rfl⟩
          go_wp2_with fail
          refine calls_world fun Wa hWa => ?_
          have HWa := hid (show RunS w.heap.size p cb qb rp vb rq n (j + 1) _ _ _ _ _ _ _ w Wa by rw [hWa]; first | exact HWn.out | exact RunS.drewN (HWn.out) _ | exact RunS.drewN (RunS.drewN (HWn.out) _) _)
          clear hWa
          refine (qlen2_any w.heap.size p cb qb _ _ _ _ Wa HWa.out.qm (bnd6 HWa.out.si.h HWa.out.hM) (bnd6 HWa.out.si.t HWa.out.hM)).mono ?_
          rintro e Wb ⟨rfl, n1, rfl⟩
          have bl : ((qT oo.1 (lawS n) - qH oo.1 (lawS n)) != (qT oo.1 (lawS n) - qH oo.1 (lawS n))) = false := by simp
          go_wp2_with fail
          refine calls_world fun Wb hWb => ?_
          have HWb := hid (show RunS w.heap.size p cb qb rp vb rq n (j + 1) _ _ _ _ _ _ _ w Wb by rw [hWb]; first | exact HWa.out | exact RunS.drewN (HWa.out) _ | exact RunS.drewN (RunS.drewN (HWa.out) _) _)
          clear hWb
          refine (rqlen_any w.heap.size rp vb rq _ _ _ _ Wb HWb.out.rm (bnd6 HWb.out.si.h HWb.out.hM) (bnd6 HWb.out.si.t HWb.out.hM)).mono ?_
          rintro e Wc ⟨rfl, n2, rfl⟩
          go_wp2_with fail
          refine calls_world fun Wc hWc => ?_
          have HWc := hid (show RunS w.heap.size p cb qb rp vb rq n (j + 1) _ _ _ _ _ _ _ w Wc by rw [hWc]; first | exact HWb.out | exact RunS.drewN (HWb.out) _ | exact RunS.drewN (RunS.drewN (HWb.out) _) _)
          clear hWc
          refine (qlist2_any w.heap.size p cb qb _ _ _ _ Wc HWc.out.qm (bnd6 HWc.out.si.h HWc.out.hM) (bnd6 HWc.out.si.t HWc.out.hM)).mono ?_
          rintro e Wd ⟨v1, rfl, hr1, c1⟩
          obtain ⟨B1, k1, hv1, _⟩ := own_slice hr1
          subst hv1
          have HD := hid (HWc.out.keep c1)
          have HR1 := hid hr1
          clear hr1 c1
          go_wp2_with fail
          refine (rqlist_any w.heap.size rp vb rq _ _ _ _ Wd HD.out.rm (bnd6 HD.out.si.h HD.out.hM) (bnd6 HD.out.si.t HD.out.hM)).mono ?_
          rintro e We ⟨v2, rfl, hr2, c2⟩
          obtain ⟨B2, k2, hv2, _⟩ := own_slice hr2
          subst hv2
          have HE2 := hid (HD.out.keep c2)
          have HR1b := hid (c2.own HR1.out (fun _ _ => id))
          have HR2 := hid hr2
          clear hr2 c2
          go_wp2_with fail
          refine (eqWords_any _ _ _ _ _ _ _ _ We (same_of_own HR1b.out (Nat.le_refl _)) (same_of_own HR2.out (Nat.le_refl _)) (qlist_lenS HE2.out.si HE2.out.hM)).mono ?_
          rintro e Wf ⟨he, n5, rfl⟩
          rw [decide_eq_true rfl] at he
          subst he
          go_wp2_with fail
          go_roundw
          case rel => exact ⟨j + 1, by omega, by go_num, _, _, _, _, _, (show lpV (some (g, g', q)) = lpV (some (g, g', oo.2)) from rfl), (show rlpV (some (g, g', q)) = rlpV (some (g, g', oo.2)) from rfl), HE2.out.drewN n5⟩
          case measure => simp [intOf]; omega
    · obtain rfl : j = len := by omega
      have d1 : decide (j < j) = false := decide_eq_false (by omega)
      as_aux_lemma =>
        go_wp2_with fail
        obtain ⟨S, hS⟩ : ∃ S : Nat → Prop, ∀ k, S k ↔ k = rp := ⟨_, fun _ => Iff.rfl⟩
        have hSp : Mix.Has S rp := (hS _).2 rfl
        have HS := hid hS
        obtain ⟨Aq, cq, hmv, hcq, hacc⟩ := own_accs H.out.rm.r.hl
        subst hmv
        have r1 : wr.cell? ⟨rp, 1, none⟩ = some (.slice Aq s.lg.length cq) := H.out.rm.r.hp.cell 1
        have hlg := H.out.si.lg
        have HAC := hid hacc
        clear hS hacc
        refine Mix.wp_region_mix S (fun i => ([0, 3, 1, 1, 1, 4, 0, 0] : List Nat).getD i 0) [0, 2, 3, 4, 5, 1, 6, 7] (by kernel_rfl) (by kernel_rfl) ?_
        repeat (first | (refine Mix.mix_q (by simp only [List.getElem?_toArray, List.getElem?_cons_zero, List.getElem?_cons_succ]; exact rfl) rfl ?_; go_big_quiet_step (fail); refine wpQuiet_nil ?_) | (refine Mix.mix_p (by simp only [List.getElem?_toArray, List.getElem?_cons_zero, List.getElem?_cons_succ]; exact rfl) rfl rfl ?_; go_big_quiet_step (fail); refine wpQuiet_nil ?_) | (refine Mix.mix_s (by simp only [List.getElem?_toArray, List.getElem?_cons_zero, List.getElem?_cons_succ]; exact rfl) rfl rfl ?_; go_big_quiet_step (fail); refine wpQuiet_nil ?_))
        refine Mix.mix_a (by simp only [List.getElem?_toArray, List.getElem?_cons_zero, List.getElem?_cons_succ]; exact rfl) rfl fun W1 hW1 => ?_
        obtain ⟨n1, rfl⟩ := hW1
        go_wp2_with fail
        refine (log_any w.heap.size p cb lv s 0 _ (bank_drew H.out.qm.b n1) (by omega)).mono ?_
        rintro e w2 ⟨gl, rfl, hlog, hc2, hgl⟩
        have hcut : cutAt 0 s.lg.length = 0 := by simp [cutAt]
        rw [hcut, List.drop_zero] at hlog ⊢
        have ch2 : Ch (fun _ => False) wr w2 := hc2.ofDrewN
        have HLOG := hid hlog
        have HAC2 := hid (HAC.out.ch ch2 (fun _ _ _ => id))
        have H2 := hid (H.out.keep ch2)
        have hkeep : Mix.Keep S wr w2 := fun j hj => by rw [(HS.out j).1 hj]; exact ch2.block rp H.out.rm.r.hp.lt id
        clear hcut hlog hc2 r1
        go_wp2_with fail
        refine ⟨hkeep, ?_⟩
        clear hkeep
        repeat (first | (refine Mix.mix_q (by simp only [List.getElem?_toArray, List.getElem?_cons_zero, List.getElem?_cons_succ]; exact rfl) rfl ?_; go_big_quiet_step ((go_at_call 43; exact eqAccs_q _ _ _ _ _ _ _ _ (blk_accs HLOG.out) HAC2.out (by omega) _)); refine wpQuiet_nil ?_) | (refine Mix.mix_p (by simp only [List.getElem?_toArray, List.getElem?_cons_zero, List.getElem?_cons_succ]; exact rfl) rfl rfl ?_; go_big_quiet_step (fail); refine wpQuiet_nil ?_) | (refine Mix.mix_s (by simp only [List.getElem?_toArray, List.getElem?_cons_zero, List.getElem?_cons_succ]; exact rfl) rfl rfl ?_; go_big_quiet_step (fail); refine wpQuiet_nil ?_))
        intro n3
        go_wp2_with fail
        go_ret
        exact ⟨rfl, (H2.out.drewN n3).mem.bel⟩
end Go.Proofs.Ytpkjjlahmjijnaa
