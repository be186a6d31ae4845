/- EpochSteps: the walk. -/
import Derived.Test.YtokcodeeaneeaaaEsI
namespace Go.Proofs.Ytokcodeeaneeaaa
open Go.RowKit
set_option linter.unusedVariables false
set_option linter.unusedSimpArgs false
set_option linter.unusedSectionVars false

theorem load_lgE (s : BS) (t c : Int) : (s.load t c).lg.length = s.lg.length + 1 := by simp [BS.load, BS.log]
theorem store_lgE (s : BS) (t c v : Int) : (s.store t c v).lg.length = s.lg.length + 1 := by simp [BS.store, BS.setlog]
theorem pnlg {s : BS} {f : Ed} {q : Pn} {M : Nat} (h : s.lg.length ≤ M) (hp : q.ph = 0 ∨ q.ph = 9 ∨ q.ph = 10) : (pnstep s f q).1.lg.length ≤ M + 1 := by
  unfold pnstep
  split
  · rw [load_lgE]; omega
  · split
    · rw [store_lgE]; omega
    · show s.lg.length ≤ _; omega
theorem snlg {s : BS} {f : Ed} {q : Sn} {M : Nat} {n : Nat} {a : Int} (h : s.lg.length ≤ M) (hp : q.ph = 0 ∨ (q.ph = 34 ∧ q.at' < n ∧ a = q.at') ∨ q.ph = 35) : (snstep s f q).1.lg.length ≤ M + 1 := by
  unfold snstep
  split
  · show (s.load _ _).lg.length ≤ _
    rw [load_lgE]; omega
  · split
    · rw [store_lgE]; omega
    · show s.lg.length ≤ _; omega

set_option maxRecDepth 100000 in
set_option maxHeartbeats 16000000 in
theorem esteps_walk (n0 : Int) (a : Option Addr) (len cap : Nat) (ls : List (List Value)) (w : World) (hn : (Lit.int .i64 n0).wf = true) (hx : InRows evEKs w a len ls) :
    Calls Try.prog 4 #[.int .i64 n0, .slice a len cap] w fun e w' => e = .returned (.bool true) ∧ Below w.heap.size w w' := by
  obtain ⟨xs, hev⟩ := in_eve hx
  have HE := hid hev
  clear hx hev
  by_cases h1 : n0 < 0
  · have d1 : decide (n0 < 0) = true := decide_eq_true h1
    go_enter Try.func4, Try.ntmps4
    go_wp2_with fail
    go_ret
    exact ⟨rfl, Below.refl _ _⟩
  have d1 : decide (n0 < 0) = false := decide_eq_false h1
  by_cases h2 : 5 < n0
  · have d2 : decide (5 < n0) = true := decide_eq_true h2
    go_enter Try.func4, Try.ntmps4
    go_wp2_with fail
    go_ret
    exact ⟨rfl, Below.refl _ _⟩
  have d2 : decide (5 < n0) = false := decide_eq_false h2
  by_cases h3 : 200 < len
  · have d3 : decide (200 < len) = true := decide_eq_true h3
    have d3' : decide ((200 : Int) < (len : Int)) = true := decide_eq_true (by omega)
    go_enter Try.func4, Try.ntmps4
    go_wp2_with fail
    go_ret
    exact ⟨rfl, Below.refl _ _⟩
  have d3 : decide (200 < len) = false := decide_eq_false h3
  have d3' : decide ((200 : Int) < (len : Int)) = false := decide_eq_false (by omega)
  obtain ⟨n, rfl⟩ := Int.eq_ofNat_of_zero_le (show 0 ≤ n0 by omega)
  have hl : len ≤ 200 := by omega
  have hn5 : n ≤ 5 := by omega
  go_enter Try.func4, Try.ntmps4
  go_wp2_with fail
  rw [show ((n : Int) + 2) = ((n + 2 : Nat) : Int) by push_cast; rfl]
  refine (new_ok w.heap.size (n + 2) (by omega) (by omega) w (Nat.le_refl _)).mono ?_
  rintro e w1 ⟨p, cb, rfl, hbank, hc1, hp1, hcb1⟩
  have hbel1 := hc1.below (B := w.heap.size) (Nat.le_refl _) (fun _ h => h.elim)
  have HB1 := hid hbank
  clear hbank
  go_wp2_with fail
  refine (rnew_ok w.heap.size (n + 2) (by omega) (by omega) w1 hbel1.size).mono ?_
  rintro e w2 ⟨rp, vb, rfl, hrb, hc2, hp2, hvb2⟩
  have hbel2 := hbel1.trans (hc2.below hbel1.size (fun _ h => h.elim))
  have HB2 := hid (HB1.out.ch hc2 id id (fun _ _ => id))
  have HR2 := hid hrb
  clear hrb
  go_wp2_with fail
  refine (enew_any w.heap.size p cb _ ⟨List.replicate (n + 2) 0, []⟩ ((n : Int) + 1) 1 n w2 HB2.out (by show (List.replicate (n + 2) (0 : Int)).length ≤ 4096; rw [List.length_replicate]; omega)).mono ?_
  rintro e w3 ⟨hc3, hr3⟩
  rw [show (⟨List.replicate (n + 2) 0, []⟩ : BS).vs = List.replicate (n + 2) 0 from rfl, eerr_fresh n hn5] at hr3
  rcases hr3 with ⟨h, _⟩ | ⟨_, qb, pb, hqb, hpb, rfl, hqd, hpd⟩
  · exact absurd rfl h
  have hbel3 := hbel2.trans (hc3.below hbel2.size (fun _ h => h.elim))
  have HB3 := hid (HB2.out.ch hc3 id id (fun _ _ => id))
  have HR3 := hid (HR2.out.ch hc3 id id (fun _ _ => id))
  have HQ3 := hid hqd
  have HP3 := hid hpd
  clear hqd hpd
  go_wp2_with fail
  refine (renew_any w.heap.size rp vb _ ⟨List.replicate (n + 2) 0, []⟩ ((n : Int) + 1) 1 n w3 HR3.out (by show (List.replicate (n + 2) (0 : Int)).length ≤ 4096; rw [List.length_replicate]; omega)).mono ?_
  rintro e w4 ⟨hc4, hr4⟩
  rw [show (⟨List.replicate (n + 2) 0, []⟩ : BS).vs = List.replicate (n + 2) 0 from rfl, eerr_fresh n hn5] at hr4
  rcases hr4 with ⟨h, _⟩ | ⟨_, sl, rq, stb, hrq, hstb, rfl, hrqd, hstd, hsl⟩
  · exact absurd rfl h
  have hbel4 := hbel3.trans (hc4.below hbel3.size (fun _ h => h.elim))
  have hE4 : EpochM w.heap.size w4 p cb qb (.slice none 0 0) ⟨List.replicate (n + 2) 0, []⟩ (lawE n) (pinsV pb n) (.pointer none) :=
    ⟨HB3.out.ch hc4 id id (fun _ _ => id), by have h := hc4.blk HQ3.out id; simpa [edCells, lawE, pinsV] using h, ⟨by show n + 1 < (List.replicate (n + 2) (0 : Int)).length; simp, by show n ≤ 64; omega, fun i hi => by
      have hi' : i < n := hi
      show 0 ≤ (1 : Int) + i ∧ (1 : Int) + i < ((List.replicate (n + 2) (0 : Int)).length : Nat)
      rw [List.length_replicate]; omega⟩, Nat.le_trans hbel2.size hqb⟩
  have hP4 : Blk w4 pb 45 (pinsA (List.replicate n none)) := by
    have h := hc4.blk HP3.out id
    rw [Int.toNat_natCast, madeX_rep] at h
    simpa [pinsA, pinV] using h
  have hR4 : REpM w.heap.size w4 rp vb rq stb (.slice none 0 0) ⟨List.replicate (n + 2) 0, []⟩ (lawE n) sl (List.replicate n 0) false :=
    ⟨HR3.out.ch hc4 id id (fun _ _ => id), by simpa [redCells, lawE] using hrqd, by
      have h := hstd
      rw [Int.toNat_natCast, madeX_rep] at h
      simpa [intsA] using h, hE4.ok, by
      rcases hsl with e | e
      · left
        show n = 0
        omega
      · right
        exact e, by simp [lawE], Nat.le_trans hbel3.size hrq, Nat.le_trans hbel3.size hstb⟩
  have HE4 := hid hE4
  have HP4 := hid hP4
  have HR4 := hid hR4
  have hpbB : w.heap.size ≤ pb := Nat.le_trans hbel2.size hpb
  have h4B := hbel4.size
  have HBEL := hid hbel4
  clear hE4 hP4 hR4 hrqd hstd hsl hc1 hc2 hc3 hc4 hbel1 hbel2 hbel3 hbel4 hp1 hcb1 hp2 hvb2 hqb hpb hrq hstb HB1 HB2 HB3 HR2 HR3 HQ3 HP3
  go_wp2_with fail
  obtain ⟨A0, hA0⟩ : ∃ A0, A0 = w4.heap.size := ⟨_, rfl⟩
  obtain ⟨A1, hA1⟩ : ∃ A1, A1 = w4.heap.size + 1 := ⟨_, rfl⟩
  have HA0 := hid hA0
  have HA1 := hid hA1
  rw [← hA1, ← hA0]
  clear hA0 hA1
  go_loopw [13, 14, 15] (fun s1 s2 i wr => ∃ j : Nat, j ≤ len ∧ i = .int .i64 j ∧ EsSo p cb qb pb rp vb rq stb A0 A1 n j sl s1 s2 w wr) (fun _ _ i _ => len - (intOf i).toNat)
  case atStart =>
    refine ⟨0, Nat.zero_le _, rfl, _, _, _, _, none, rfl, rfl, esm_init hn5 (Nat.le_trans h4B (by simp <;> omega)) ((((HBEL.out).alloc h4B _).alloc (by simp <;> omega) _)) ((HE4.out.keep ((Ch.refl _ _).alloc _)).keep ((Ch.refl _ _).alloc _)) ((HP4.out.alloc _).alloc _) ((HR4.out.keep ((Ch.refl _ _).alloc _)).keep ((Ch.refl _ _).alloc _)) ?_ ?_ hpbB (by rw [HA0.out]; exact h4B) (by rw [HA1.out]; omega)⟩
    · rw [HA0.out]; exact (Blk.new w4 _ _).alloc _
    · rw [HA1.out]; exact blk_new2 _ _ _ _
  case round =>
    obtain ⟨j, hj, rfl, lv, mv, s, gp, gs, rfl, rfl, hR⟩ := hrel
    by_cases hlt : j < len
    · have hxl := HE.out.1
      obtain ⟨b, off, rfl, hbl, hcell⟩ := HE.out.2.2 (by omega)
      obtain ⟨ev, hev⟩ : ∃ ev, xs[j]? = some ev := ⟨_, List.getElem?_eq_getElem (by omega)⟩
      obtain ⟨ek1, ek2, ek3⟩ := HE.out.2.1 ev (List.mem_of_getElem? hev)
      have c0 := (hR.mem.bel.cell (p := ⟨b, off + j * 3, none⟩) hbl).trans (hcell j 0 ev _ hev rfl)
      have c1 := (hR.mem.bel.cell (p := ⟨b, off + j * 3 + 1, none⟩) hbl).trans (hcell j 1 ev _ hev rfl)
      have c2 := (hR.mem.bel.cell (p := ⟨b, off + j * 3 + 2, none⟩) hbl).trans (hcell j 2 ev _ hev rfl)
      have d1 : decide (j < len) = true := decide_eq_true hlt
      have d1' : decide ((j : Int) < (len : Int)) = true := decide_eq_true (by omega)
      have HN : True := trivial
      clear hev hcell ek2 ek3
      go_wp2_with fail
      go_quiet (fail)
      obtain ⟨wz, hwz⟩ : ∃ x, x = wr.drewN nq := ⟨_, rfl⟩
      have c3 : wz.cell? ⟨b, off + j * 3, none⟩ = some (.int .u8 ev.d) := by rw [hwz]; exact c0
      have H := hid (show RunE w.heap.size p cb qb pb rp vb rq stb A0 A1 n j sl lv mv s gp gs w wz from hwz ▸ hR.drewN nq)
      rw [← hwz]
      clear hwz hR c0 c1 c2
      by_cases h0 : ev.d % 5 = 0
      · have e0 : (ev.d % 5 == 0) = true := by rw [beq_iff_eq]; exact h0
        clear h0
        as_aux_lemma =>
          by_cases hck : ckerr (lawE n) ev.t ev.k = 0
          · obtain ⟨⟨t0, t1⟩, kk0, kk1⟩ := ckerr_ok hck
            obtain ⟨k, hk⟩ := Int.eq_ofNat_of_zero_le kk0
            rw [hk] at hck kk1 ⊢
            have hkn : k < n := by have h := kk1; show k < n; have : (lawE n).n = n := rfl; omega
            obtain ⟨o, ho⟩ : ∃ o, gp[k]? = some o := ⟨_, List.getElem?_eq_getElem (by rw [H.out.len]; exact hkn)⟩
            have HCK := hid hck
            have HO := hid ho
            clear hk kk0 kk1 hck ho
            cases hps : Slot.ps o with
            | some g =>
              have HP := hid (show (psOf gp)[k]? = some (some g) by rw [ps_at HO.out, hps])
              have HS := hid (show lk (stOf gp) k ≠ 0 by
                rw [st_at HO.out]
                match o, hps with
                | some (_, _, q, true), _ => show (if q.ph = 0 then (2 : Int) else 1) ≠ 0; split <;> decide)
              clear hps
              go_wp2_with fail
              refine (pin_have w.heap.size p cb qb pb lv s (lawE n) (scV gs) (psOf gp) wz H.out.ep H.out.pa (by simp [psOf]; exact H.out.len) ev.t k HCK.out g HP.out).mono ?_
              rintro e w2 ⟨rfl, rfl⟩
              go_wp2_with fail
              refine (rpin_have w.heap.size rp vb rq stb mv s (lawE n) sl (stOf gp) (scnOf gs) wz H.out.re ev.t k HCK.out HS.out).mono ?_
              rintro e w2 ⟨rfl, rfl⟩
              go_wp2_with fail
              refine calls_world fun Wa hWa => ?_
              have HA := hid (show RunE w.heap.size p cb qb pb rp vb rq stb A0 A1 n (j + 1) sl _ _ _ _ _ w Wa from hWa ▸ H.out.mono (by omega) (by omega))
              clear hWa
              refine (now_any w.heap.size p cb qb _ _ _ _ _ Wa HA.out.ep).mono ?_
              rintro e Wb ⟨rfl, n1, rfl⟩
              go_wp2_with fail
              refine calls_world fun Wb hWb => ?_
              have HB := hid (show RunE w.heap.size p cb qb pb rp vb rq stb A0 A1 n (j + 1) sl _ _ _ _ _ w Wb from hWb ▸ HA.out.drewN n1)
              clear hWb
              refine (rnow_any w.heap.size rp vb rq stb _ _ _ _ _ _ Wb HB.out.re).mono ?_
              rintro e Wc ⟨rfl, n2, rfl⟩
              go_wp2_with fail
              refine calls_world fun Wc hWc => ?_
              have HC := hid (show RunE w.heap.size p cb qb pb rp vb rq stb A0 A1 n (j + 1) sl _ _ _ _ _ w Wc from hWc ▸ HB.out.drewN n2)
              clear hWc
              refine (pinned_any w.heap.size p cb qb _ _ _ _ _ Wc HC.out.ep).mono ?_
              rintro e Wd ⟨v1, rfl, hr1, c1⟩
              obtain ⟨B1, k1, hv1, _⟩ := own_slice hr1
              subst hv1
              have HD := hid (HC.out.keep c1)
              have HR1 := hid hr1
              clear hr1 c1
              go_wp2_with fail
              refine (rpinned_any w.heap.size rp vb rq stb _ _ _ _ _ _ Wd HD.out.re).mono ?_
              rintro e We ⟨v2, rfl, hr2, c2⟩
              obtain ⟨B2, k2, hv2, _⟩ := own_slice hr2
              subst hv2
              have HE2 := hid (HD.out.keep c2)
              have HR1b := hid (c2.own HR1.out (fun _ _ => id))
              have HR2 := hid hr2
              have hpl := pinL_le s (lawE n) (lawE n).n
              have hpl2 : (lawE n).n ≤ 5 := HE2.out.n5
              clear hr2 c2
              go_wp2_with fail
              refine (eqInts_any _ _ _ _ _ _ We (ints_of_own HR1b.out) (ints_of_own HR2.out) (by omega)).mono ?_
              rintro e Wf ⟨rfl, n5, rfl⟩
              clear hpl hpl2
              go_wp2_with fail
              go_roundw
              case rel => exact ⟨j + 1, by omega, by go_num, _, _, _, _, _, rfl, rfl, HE2.out.drewN n5⟩
              case measure => simp [intOf]; omega
            | none =>
              have HP := hid (show (psOf gp)[k]? = some none by rw [ps_at HO.out, hps])
              have HS := hid (show lk (stOf gp) k = 0 by
                rw [st_at HO.out]
                match o, hps with
                | some (_, _, q, false), _ => rfl
                | none, _ => rfl)
              have d5 : decide (k < 5) = true := decide_eq_true (by have := H.out.n5; omega)
              clear hps
              go_wp2_with fail
              refine (pin_ok w.heap.size p cb qb pb lv s (lawE n) (scV gs) (psOf gp) wz H.out.ep H.out.pa (by simp [psOf]; exact H.out.len) ev.t k HCK.out HP.out).mono ?_
              rintro e w2 ⟨g, rfl, hb2, hp2, ch2, hg2⟩
              have M2 := hid (H.out.pinI hkn hb2 hp2 ch2 hg2)
              clear hb2 hp2 ch2 hg2
              go_wp2_with fail
              refine (rpin_ok w.heap.size rp vb rq stb mv s (lawE n) sl (stOf gp) (scnOf gs) w2 (M2.out.each 2 _ rfl) ev.t k HCK.out HS.out).mono ?_
              rintro e w3 ⟨g', rfl, hr3, hb3, ch3, hg3⟩
              have M3 := hid (H.out.pinR hkn (by simp [H.out.len]) M2.out hr3 hb3 ch3 hg3)
              have a0 : w3.cell? ⟨A0, k, none⟩ = some (pinV (Slot.i (gp[k]?.getD none))) := Blk.cell (M3.out.each 3 _ rfl) k |>.trans (arrI_at gp k (by have := H.out.n5; omega))
              have a1 : w3.cell? ⟨A1, k, none⟩ = some (pinV (Slot.r (gp[k]?.getD none))) := Blk.cell (M3.out.each 4 _ rfl) k |>.trans (arrR_at gp k (by have := H.out.n5; omega))
              have fa0 : w3.frozen? ⟨A0, k, none⟩ = false := Blk.free (M3.out.each 3 _ rfl) k
              have fa1 : w3.frozen? ⟨A1, k, none⟩ = false := Blk.free (M3.out.each 4 _ rfl) k
              have n01 : A0 ≠ A1 := Blk.ne (M3.out.each 3 _ rfl) (M3.out.each 4 _ rfl) (by decide)
              have n10 := Ne.symm n01
              obtain ⟨x0, hx0⟩ : ∃ x, x = pinV (Slot.i (gp[k]?.getD none)) := ⟨_, rfl⟩
              obtain ⟨x1, hx1⟩ : ∃ x, x = pinV (Slot.r (gp[k]?.getD none)) := ⟨_, rfl⟩
              rw [← hx0] at a0
              rw [← hx1] at a1
              clear hx0 hx1 hr3 hb3 ch3 hg3
              go_wp2_with fail
              have M4 := (M3.out.put (i := 3) rfl k (.pointer (some ⟨g, 0, none⟩))).put (i := 4) rfl k (.pointer (some ⟨g', 0, none⟩))
              have H5 := hid (H.out.begun (q := ⟨ev.t, k, 0, 9⟩) hkn ⟨rfl, ⟨t0, t1⟩, rfl⟩ M4)
              clear a0 a1 fa0 fa1 n01 n10 M4
              go_wp2_with fail
              refine calls_world fun Wa hWa => ?_
              have HA := hid (show RunE w.heap.size p cb qb pb rp vb rq stb A0 A1 n (j + 1) sl _ _ _ _ _ w Wa from hWa ▸ H5.out.mono (by omega) (by omega))
              clear hWa
              refine (now_any w.heap.size p cb qb _ _ _ _ _ Wa HA.out.ep).mono ?_
              rintro e Wb ⟨rfl, n1, rfl⟩
              go_wp2_with fail
              refine calls_world fun Wb hWb => ?_
              have HB := hid (show RunE w.heap.size p cb qb pb rp vb rq stb A0 A1 n (j + 1) sl _ _ _ _ _ w Wb from hWb ▸ HA.out.drewN n1)
              clear hWb
              refine (rnow_any w.heap.size rp vb rq stb _ _ _ _ _ _ Wb HB.out.re).mono ?_
              rintro e Wc ⟨rfl, n2, rfl⟩
              go_wp2_with fail
              refine calls_world fun Wc hWc => ?_
              have HC := hid (show RunE w.heap.size p cb qb pb rp vb rq stb A0 A1 n (j + 1) sl _ _ _ _ _ w Wc from hWc ▸ HB.out.drewN n2)
              clear hWc
              refine (pinned_any w.heap.size p cb qb _ _ _ _ _ Wc HC.out.ep).mono ?_
              rintro e Wd ⟨v1, rfl, hr1, c1⟩
              obtain ⟨B1, k1, hv1, _⟩ := own_slice hr1
              subst hv1
              have HD := hid (HC.out.keep c1)
              have HR1 := hid hr1
              clear hr1 c1
              go_wp2_with fail
              refine (rpinned_any w.heap.size rp vb rq stb _ _ _ _ _ _ Wd HD.out.re).mono ?_
              rintro e We ⟨v2, rfl, hr2, c2⟩
              obtain ⟨B2, k2, hv2, _⟩ := own_slice hr2
              subst hv2
              have HE2 := hid (HD.out.keep c2)
              have HR1b := hid (c2.own HR1.out (fun _ _ => id))
              have HR2 := hid hr2
              have hpl := pinL_le s (lawE n) (lawE n).n
              have hpl2 : (lawE n).n ≤ 5 := HE2.out.n5
              clear hr2 c2
              go_wp2_with fail
              refine (eqInts_any _ _ _ _ _ _ We (ints_of_own HR1b.out) (ints_of_own HR2.out) (by omega)).mono ?_
              rintro e Wf ⟨rfl, n5, rfl⟩
              clear hpl hpl2
              go_wp2_with fail
              go_roundw
              case rel => exact ⟨j + 1, by omega, by go_num, _, _, _, _, _, rfl, rfl, HE2.out.drewN n5⟩
              case measure => simp [intOf]; omega
          · obtain ⟨E0, hE0⟩ : ∃ E0, E0 = ckerr (lawE n) ev.t ev.k := ⟨_, rfl⟩
            have PB := pin_bad w.heap.size p cb qb pb lv s (lawE n) (scV gs) (psOf gp) wz H.out.ep H.out.pa (by simp [psOf]; exact H.out.len) ev.t ev.k hck
            have RB := rpin_bad w.heap.size rp vb rq stb mv s (lawE n) sl (stOf gp) (scnOf gs) wz H.out.re ev.t ev.k hck
            rw [← hE0] at PB RB
            have bE : (E0 != E0) = false := by simp
            clear hck hE0
            go_wp2_with fail
            refine PB.mono ?_
            rintro e w2 ⟨rfl, rfl⟩
            clear PB
            go_wp2_with fail
            refine RB.mono ?_
            rintro e w2 ⟨rfl, rfl⟩
            clear RB
            go_wp2_with fail
            refine calls_world fun Wa hWa => ?_
            have HA := hid (show RunE w.heap.size p cb qb pb rp vb rq stb A0 A1 n (j + 1) sl _ _ _ _ _ w Wa from hWa ▸ H.out.mono (by omega) (by omega))
            clear hWa
            refine (now_any w.heap.size p cb qb _ _ _ _ _ Wa HA.out.ep).mono ?_
            rintro e Wb ⟨rfl, n1, rfl⟩
            go_wp2_with fail
            refine calls_world fun Wb hWb => ?_
            have HB := hid (show RunE w.heap.size p cb qb pb rp vb rq stb A0 A1 n (j + 1) sl _ _ _ _ _ w Wb from hWb ▸ HA.out.drewN n1)
            clear hWb
            refine (rnow_any w.heap.size rp vb rq stb _ _ _ _ _ _ Wb HB.out.re).mono ?_
            rintro e Wc ⟨rfl, n2, rfl⟩
            go_wp2_with fail
            refine calls_world fun Wc hWc => ?_
            have HC := hid (show RunE w.heap.size p cb qb pb rp vb rq stb A0 A1 n (j + 1) sl _ _ _ _ _ w Wc from hWc ▸ HB.out.drewN n2)
            clear hWc
            refine (pinned_any w.heap.size p cb qb _ _ _ _ _ Wc HC.out.ep).mono ?_
            rintro e Wd ⟨v1, rfl, hr1, c1⟩
            obtain ⟨B1, k1, hv1, _⟩ := own_slice hr1
            subst hv1
            have HD := hid (HC.out.keep c1)
            have HR1 := hid hr1
            clear hr1 c1
            go_wp2_with fail
            refine (rpinned_any w.heap.size rp vb rq stb _ _ _ _ _ _ Wd HD.out.re).mono ?_
            rintro e We ⟨v2, rfl, hr2, c2⟩
            obtain ⟨B2, k2, hv2, _⟩ := own_slice hr2
            subst hv2
            have HE2 := hid (HD.out.keep c2)
            have HR1b := hid (c2.own HR1.out (fun _ _ => id))
            have HR2 := hid hr2
            have hpl := pinL_le s (lawE n) (lawE n).n
            have hpl2 : (lawE n).n ≤ 5 := HE2.out.n5
            clear hr2 c2
            go_wp2_with fail
            refine (eqInts_any _ _ _ _ _ _ We (ints_of_own HR1b.out) (ints_of_own HR2.out) (by omega)).mono ?_
            rintro e Wf ⟨rfl, n5, rfl⟩
            clear hpl hpl2
            go_wp2_with fail
            go_roundw
            case rel => exact ⟨j + 1, by omega, by go_num, _, _, _, _, _, rfl, rfl, HE2.out.drewN n5⟩
            case measure => simp [intOf]; omega
      have e0 : (ev.d % 5 == 0) = false := by rw [beq_eq_false_iff_ne]; exact h0
      by_cases h1 : ev.d % 5 = 1
      · have e1 : (ev.d % 5 == 1) = true := by rw [beq_iff_eq]; exact h1
        clear h0 h1
        as_aux_lemma =>
          by_cases hkr : ev.k < 0 ∨ (n : Int) ≤ ev.k
          · by_cases hk0 : ev.k < 0
            · have dk0 : decide (ev.k < 0) = true := decide_eq_true hk0
              go_wp2_with fail
              go_roundw
              case rel => exact ⟨j + 1, by omega, by go_num, _, _, _, _, _, rfl, rfl, H.out.mono (by omega) (by omega)⟩
              case measure => simp [intOf]; omega
            · have dk0 : decide (ev.k < 0) = false := decide_eq_false hk0
              have dk1 : decide ((n : Int) ≤ ev.k) = true := decide_eq_true (by omega)
              go_wp2_with fail
              go_roundw
              case rel => exact ⟨j + 1, by omega, by go_num, _, _, _, _, _, rfl, rfl, H.out.mono (by omega) (by omega)⟩
              case measure => simp [intOf]; omega
          · obtain ⟨k, hk⟩ := Int.eq_ofNat_of_zero_le (show 0 ≤ ev.k by omega)
            rw [hk] at hkr ⊢
            have hkn : k < n := by omega
            have hn5 : n ≤ 5 := H.out.n5
            have dk1 : decide ((n : Int) ≤ (k : Int)) = false := decide_eq_false (by omega)
            have dk2 : decide (n ≤ k) = false := decide_eq_false (by omega)
            have d5 : decide (k < 5) = true := decide_eq_true (by omega)
            have d5i : decide ((k : Int) < 5) = true := decide_eq_true (by omega)
            obtain ⟨o, ho⟩ : ∃ o, gp[k]? = some o := ⟨_, List.getElem?_eq_getElem (by rw [H.out.len]; exact hkn)⟩
            clear hk hkr
            have a0 : wz.cell? ⟨A0, k, none⟩ = some (pinV (Slot.i (gp[k]?.getD none))) := (H.out.ai.cell k).trans (arrI_at gp k (by omega))
            have a1 : wz.cell? ⟨A1, k, none⟩ = some (pinV (Slot.r (gp[k]?.getD none))) := (H.out.ar.cell k).trans (arrR_at gp k (by omega))
            rw [ho] at a0 a1
            have HO := hid ho
            match o, HO with
            | none, HO =>
              have a0 : wz.cell? ⟨A0, k, none⟩ = some (.pointer none) := a0
              have a1 : wz.cell? ⟨A1, k, none⟩ = some (.pointer none) := a1
              clear ho
              go_wp2_with fail
              go_quiet ((first | (go_at_call 21; exact pn_nil_q wz _) | (go_at_call 22; exact rpn_nil_q wz _)))
              go_wp2_with fail
              refine (pn_step_nil _).mono ?_
              rintro e w2 ⟨rfl, rfl⟩
              go_wp2_with fail
              refine (rpn_step_nil _).mono ?_
              rintro e w2 ⟨rfl, rfl⟩
              go_wp2_with fail
              obtain ⟨WX, hWX⟩ : ∃ WX, WX = wz.drewN nq := ⟨_, rfl⟩
              have b0 : WX.cell? ⟨A0, k, none⟩ = some (.pointer none) := by rw [hWX]; exact a0
              have b1 : WX.cell? ⟨A1, k, none⟩ = some (.pointer none) := by rw [hWX]; exact a1
              have HX := hid (show RunE w.heap.size p cb qb pb rp vb rq stb A0 A1 n j sl lv mv s gp gs w WX by rw [hWX]; exact H.out.drewN nq)
              rw [← hWX]
              clear hWX a0 a1
              go_quiet ((first | (go_at_call 21; exact pn_nil_q WX _) | (go_at_call 22; exact rpn_nil_q WX _)))
              have HY := hid (HX.out.drewN nq)
              clear b0 b1
              go_wp2_with fail
              refine calls_world fun Wa hWa => ?_
              have HA := hid (show RunE w.heap.size p cb qb pb rp vb rq stb A0 A1 n (j + 1) sl _ _ _ _ _ w Wa from hWa ▸ HY.out.mono (by omega) (by omega))
              clear hWa
              refine (now_any w.heap.size p cb qb _ _ _ _ _ Wa HA.out.ep).mono ?_
              rintro e Wb ⟨rfl, n1, rfl⟩
              go_wp2_with fail
              refine calls_world fun Wb hWb => ?_
              have HB := hid (show RunE w.heap.size p cb qb pb rp vb rq stb A0 A1 n (j + 1) sl _ _ _ _ _ w Wb from hWb ▸ HA.out.drewN n1)
              clear hWb
              refine (rnow_any w.heap.size rp vb rq stb _ _ _ _ _ _ Wb HB.out.re).mono ?_
              rintro e Wc ⟨rfl, n2, rfl⟩
              go_wp2_with fail
              refine calls_world fun Wc hWc => ?_
              have HC := hid (show RunE w.heap.size p cb qb pb rp vb rq stb A0 A1 n (j + 1) sl _ _ _ _ _ w Wc from hWc ▸ HB.out.drewN n2)
              clear hWc
              refine (pinned_any w.heap.size p cb qb _ _ _ _ _ Wc HC.out.ep).mono ?_
              rintro e Wd ⟨v1, rfl, hr1, c1⟩
              obtain ⟨B1, k1, hv1, _⟩ := own_slice hr1
              subst hv1
              have HD := hid (HC.out.keep c1)
              have HR1 := hid hr1
              clear hr1 c1
              go_wp2_with fail
              refine (rpinned_any w.heap.size rp vb rq stb _ _ _ _ _ _ Wd HD.out.re).mono ?_
              rintro e We ⟨v2, rfl, hr2, c2⟩
              obtain ⟨B2, k2, hv2, _⟩ := own_slice hr2
              subst hv2
              have HE2 := hid (HD.out.keep c2)
              have HR1b := hid (c2.own HR1.out (fun _ _ => id))
              have HR2 := hid hr2
              have hpl := pinL_le s (lawE n) (lawE n).n
              have hpl2 : (lawE n).n ≤ 5 := HE2.out.n5
              clear hr2 c2
              go_wp2_with fail
              refine (eqInts_any _ _ _ _ _ _ We (ints_of_own HR1b.out) (ints_of_own HR2.out) (by omega)).mono ?_
              rintro e Wf ⟨rfl, n5, rfl⟩
              clear hpl hpl2
              go_wp2_with fail
              go_roundw
              case rel => exact ⟨j + 1, by omega, by go_num, _, _, _, _, _, rfl, rfl, HE2.out.drewN n5⟩
              case measure => simp [intOf]; omega
            | some (g, g', q, l), HO =>
              have a0 : wz.cell? ⟨A0, k, none⟩ = some (.pointer (some ⟨g, 0, none⟩)) := a0
              have a1 : wz.cell? ⟨A1, k, none⟩ = some (.pointer (some ⟨g', 0, none⟩)) := a1
              obtain ⟨p1, p2, p3, p4⟩ := H.out.pn k g g' q l ho
              have HQ := hid (show Blk wz g 117 (pnCells qb g q) from H.out.pin ho)
              have HRQ := hid (show Blk wz g' 120 (rpnCells rq q) from H.out.rpin ho)
              have bq : (q.ph != q.ph) = false := by simp
              have HP1 := hid p1
              have HP3 := hid p3
              clear ho p1 p3 p4
              go_wp2_with fail
              go_quiet ((first | (go_at_call 21; exact pn_next_q HQ.out _) | (go_at_call 22; exact rpn_next_q HRQ.out _)))
              clear HQ HRQ
              have HX := hid (H.out.drewN nq)
              have b0 : (wz.drewN nq).cell? ⟨A0, k, none⟩ = some (.pointer (some ⟨g, 0, none⟩)) := a0
              have b1 : (wz.drewN nq).cell? ⟨A1, k, none⟩ = some (.pointer (some ⟨g', 0, none⟩)) := a1
              clear a0 a1
              go_wp2_with fail
              refine (pn_step w.heap.size p cb qb g lv s (lawE n) (pinsV pb n) (scV gs) q _ HX.out.ep (HX.out.pin HO.out) p2 (by have := HX.out.lg; omega) HX.out.mem.bz (by rw [HP1.out]; exact hkn) HP3.out).mono ?_
              rintro e w2 ⟨rfl, lv', hM2, hq2, ch2, hf2⟩
              have M2 := hid (HX.out.stepI HO.out hM2 hq2 ch2 hf2)
              clear hM2 hq2 ch2 hf2 b0
              have b1 : w2.cell? ⟨A1, k, none⟩ = some (.pointer (some ⟨g', 0, none⟩)) := (Blk.cell (M2.out.each 4 _ rfl) k).trans ((arrR_at gp k (by omega)).trans (by rw [HO.out]; rfl))
              go_wp2_with fail
              refine (rpn_step w.heap.size rp vb rq stb g' mv s (lawE n) sl (stOf gp) (scnOf gs) q w2 (M2.out.each 2 _ rfl) (M2.out.each (7 + n + k) (blkR g' 120 (rpnCells rq q)) (eL_at8 (by simp [H.out.len]) (by simp [HO.out, rpinRes]))) p2 (by have := HX.out.lg; omega) M2.out.bz (by rw [HP1.out]; exact hkn) HP3.out).mono ?_
              rintro e w3 ⟨rfl, mv', hM3, hq3, ch3, hf3⟩
              rw [HP1.out] at hM3
              have M3 := HX.out.stepR (scn' := true) HO.out (by simp [H.out.len]) M2.out hM3 hq3 ch3 hf3
              have H4 := HX.out.stepped HO.out (pnlg HX.out.lg HP3.out) (by omega) rfl M3
              obtain ⟨oo, hoo⟩ : ∃ oo, oo = pnstep s (lawE n) q := ⟨_, rfl⟩
              rw [← hoo] at H4 ⊢
              have bo : ((oo.2.ph == 0) != (oo.2.ph == 0)) = false := by simp
              have bo2 : (oo.2.ph != oo.2.ph) = false := by simp
              have HO4 := hid (show (gp.set k (some (g, g', oo.2, l)))[k]? = some (some (g, g', oo.2, l)) by simp [H.out.len, hkn])
              have HQ := hid (show Blk w3 g 117 (pnCells qb g oo.2) from H4.pin HO4.out)
              have HRQ := hid (show Blk w3 g' 120 (rpnCells rq oo.2) from H4.rpin HO4.out)
              have b0 : w3.cell? ⟨A0, k, none⟩ = some (.pointer (some ⟨g, 0, none⟩)) := (H4.ai.cell k).trans ((arrI_at _ k (by omega)).trans (by rw [HO4.out]; rfl))
              have b1 : w3.cell? ⟨A1, k, none⟩ = some (.pointer (some ⟨g', 0, none⟩)) := (H4.ar.cell k).trans ((arrR_at _ k (by omega)).trans (by rw [HO4.out]; rfl))
              have H4 := hid H4
              clear hM3 hq3 ch3 hf3 M3 hoo
              go_wp2_with fail
              go_quiet ((first | (go_at_call 21; exact pn_next_q HQ.out _) | (go_at_call 22; exact rpn_next_q HRQ.out _)))
              have H5 := hid (H4.out.drewN nq)
              clear b0 b1 HQ HRQ
              go_wp2_with fail
              refine calls_world fun Wa hWa => ?_
              have HA := hid (show RunE w.heap.size p cb qb pb rp vb rq stb A0 A1 n (j + 1) sl _ _ _ _ _ w Wa from hWa ▸ H5.out)
              clear hWa
              refine (now_any w.heap.size p cb qb _ _ _ _ _ Wa HA.out.ep).mono ?_
              rintro e Wb ⟨rfl, n1, rfl⟩
              go_wp2_with fail
              refine calls_world fun Wb hWb => ?_
              have HB := hid (show RunE w.heap.size p cb qb pb rp vb rq stb A0 A1 n (j + 1) sl _ _ _ _ _ w Wb from hWb ▸ HA.out.drewN n1)
              clear hWb
              refine (rnow_any w.heap.size rp vb rq stb _ _ _ _ _ _ Wb HB.out.re).mono ?_
              rintro e Wc ⟨rfl, n2, rfl⟩
              go_wp2_with fail
              refine calls_world fun Wc hWc => ?_
              have HC := hid (show RunE w.heap.size p cb qb pb rp vb rq stb A0 A1 n (j + 1) sl _ _ _ _ _ w Wc from hWc ▸ HB.out.drewN n2)
              clear hWc
              refine (pinned_any w.heap.size p cb qb _ _ _ _ _ Wc HC.out.ep).mono ?_
              rintro e Wd ⟨v1, rfl, hr1, c1⟩
              obtain ⟨B1, k1, hv1, _⟩ := own_slice hr1
              subst hv1
              have HD := hid (HC.out.keep c1)
              have HR1 := hid hr1
              clear hr1 c1
              go_wp2_with fail
              refine (rpinned_any w.heap.size rp vb rq stb _ _ _ _ _ _ Wd HD.out.re).mono ?_
              rintro e We ⟨v2, rfl, hr2, c2⟩
              obtain ⟨B2, k2, hv2, _⟩ := own_slice hr2
              subst hv2
              have HE2 := hid (HD.out.keep c2)
              have HR1b := hid (c2.own HR1.out (fun _ _ => id))
              have HR2 := hid hr2
              have hpl := pinL_le oo.1 (lawE n) (lawE n).n
              have hpl2 : (lawE n).n ≤ 5 := HE2.out.n5
              clear hr2 c2
              go_wp2_with fail
              refine (eqInts_any _ _ _ _ _ _ We (ints_of_own HR1b.out) (ints_of_own HR2.out) (by omega)).mono ?_
              rintro e Wf ⟨rfl, n5, rfl⟩
              clear hpl hpl2
              go_wp2_with fail
              go_roundw
              case rel => exact ⟨j + 1, by omega, by go_num, _, _, _, _, _, rfl, rfl, HE2.out.drewN n5⟩
              case measure => simp [intOf]; omega
      have e1 : (ev.d % 5 == 1) = false := by rw [beq_eq_false_iff_ne]; exact h1
      by_cases h2 : ev.d % 5 = 2
      · have e2 : (ev.d % 5 == 2) = true := by rw [beq_iff_eq]; exact h2
        clear h0 h1 h2
        as_aux_lemma =>
          by_cases hck : ckerr (lawE n) ev.t ev.k = 0
          · obtain ⟨⟨t0, t1⟩, kk0, kk1⟩ := ckerr_ok hck
            obtain ⟨k, hk⟩ := Int.eq_ofNat_of_zero_le kk0
            rw [hk] at hck kk1 ⊢
            have hkn : k < n := by have h := kk1; show k < n; have : (lawE n).n = n := rfl; omega
            obtain ⟨o, ho⟩ : ∃ o, gp[k]? = some o := ⟨_, List.getElem?_eq_getElem (by rw [H.out.len]; exact hkn)⟩
            have HCK := hid hck
            have HO := hid ho
            clear hk kk0 kk1 hck ho
            cases hps : Slot.ps o with
            | none =>
              have HP := hid (show (psOf gp)[k]? = some none by rw [ps_at HO.out, hps])
              have HS := hid (show lk (stOf gp) k = 0 by
                rw [st_at HO.out]
                match o, hps with
                | some (_, _, q, false), _ => rfl
                | none, _ => rfl)
              clear hps
              go_wp2_with fail
              refine (unpin_none w.heap.size p cb qb pb lv s (lawE n) (scV gs) (psOf gp) wz H.out.ep H.out.pa (by simp [psOf]; exact H.out.len) ev.t k HCK.out HP.out).mono ?_
              rintro e w2 ⟨rfl, rfl⟩
              go_wp2_with fail
              refine (runpin_none w.heap.size rp vb rq stb mv s (lawE n) sl (stOf gp) (scnOf gs) wz H.out.re ev.t k HCK.out HS.out).mono ?_
              rintro e w2 ⟨rfl, rfl⟩
              go_wp2_with fail
              refine calls_world fun Wa hWa => ?_
              have HA := hid (show RunE w.heap.size p cb qb pb rp vb rq stb A0 A1 n (j + 1) sl _ _ _ _ _ w Wa from hWa ▸ H.out.mono (by omega) (by omega))
              clear hWa
              refine (now_any w.heap.size p cb qb _ _ _ _ _ Wa HA.out.ep).mono ?_
              rintro e Wb ⟨rfl, n1, rfl⟩
              go_wp2_with fail
              refine calls_world fun Wb hWb => ?_
              have HB := hid (show RunE w.heap.size p cb qb pb rp vb rq stb A0 A1 n (j + 1) sl _ _ _ _ _ w Wb from hWb ▸ HA.out.drewN n1)
              clear hWb
              refine (rnow_any w.heap.size rp vb rq stb _ _ _ _ _ _ Wb HB.out.re).mono ?_
              rintro e Wc ⟨rfl, n2, rfl⟩
              go_wp2_with fail
              refine calls_world fun Wc hWc => ?_
              have HC := hid (show RunE w.heap.size p cb qb pb rp vb rq stb A0 A1 n (j + 1) sl _ _ _ _ _ w Wc from hWc ▸ HB.out.drewN n2)
              clear hWc
              refine (pinned_any w.heap.size p cb qb _ _ _ _ _ Wc HC.out.ep).mono ?_
              rintro e Wd ⟨v1, rfl, hr1, c1⟩
              obtain ⟨B1, k1, hv1, _⟩ := own_slice hr1
              subst hv1
              have HD := hid (HC.out.keep c1)
              have HR1 := hid hr1
              clear hr1 c1
              go_wp2_with fail
              refine (rpinned_any w.heap.size rp vb rq stb _ _ _ _ _ _ Wd HD.out.re).mono ?_
              rintro e We ⟨v2, rfl, hr2, c2⟩
              obtain ⟨B2, k2, hv2, _⟩ := own_slice hr2
              subst hv2
              have HE2 := hid (HD.out.keep c2)
              have HR1b := hid (c2.own HR1.out (fun _ _ => id))
              have HR2 := hid hr2
              have hpl := pinL_le s (lawE n) (lawE n).n
              have hpl2 : (lawE n).n ≤ 5 := HE2.out.n5
              clear hr2 c2
              go_wp2_with fail
              refine (eqInts_any _ _ _ _ _ _ We (ints_of_own HR1b.out) (ints_of_own HR2.out) (by omega)).mono ?_
              rintro e Wf ⟨rfl, n5, rfl⟩
              clear hpl hpl2
              go_wp2_with fail
              go_roundw
              case rel => exact ⟨j + 1, by omega, by go_num, _, _, _, _, _, rfl, rfl, HE2.out.drewN n5⟩
              case measure => simp [intOf]; omega
            | some g0 =>
              have HP := hid (show (psOf gp)[k]? = some (some g0) by rw [ps_at HO.out, hps])
              obtain ⟨g, g', q, rfl⟩ : ∃ g g' q, o = some (g, g', q, true) := by
                match o, hps with
                | some (g, g', q, true), _ => exact ⟨g, g', q, rfl⟩
              obtain rfl : g = g0 := Option.some.inj hps
              obtain ⟨p1, p2, p3, p4⟩ := H.out.pn k g g' q true HO.out
              have HQ := hid (show Blk wz g 117 (pnCells qb g q) from H.out.pin HO.out)
              by_cases h0 : q.ph = 0
              · have HS := hid (show lk (stOf gp) k = 2 by rw [st_at HO.out]; exact if_pos h0)
                have H0 := hid h0
                clear hps p1 p3 p4 h0
                go_wp2_with fail
                refine (unpin_ok w.heap.size p cb qb pb lv s (lawE n) (scV gs) (psOf gp) wz H.out.ep H.out.pa (by simp [psOf]; exact H.out.len) ev.t (by have := H.out.lg; omega) H.out.mem.bz k HCK.out g HP.out q HQ.out H0.out).mono ?_
                rintro e w2 ⟨rfl, lv', hM2, hp2, ch2, hf2⟩
                have M2 := hid (H.out.unpI HO.out hM2 hp2 ch2 hf2)
                clear hM2 hp2 ch2 hf2
                go_wp2_with fail
                refine (runpin_ok w.heap.size rp vb rq stb mv s (lawE n) sl (stOf gp) (scnOf gs) w2 (M2.out.each 2 _ rfl) ev.t (by have := H.out.lg; omega) M2.out.bz k HCK.out HS.out).mono ?_
                rintro e w3 ⟨rfl, mv', hM3, ch3, hf3⟩
                have M3 := RunE.unpR M2.out hM3 ch3 hf3
                have H5 := hid (H.out.unpinned HO.out H0.out (by rw [store_lgE]; have := H.out.lg; omega) (by omega) M3)
                clear hM3 ch3 hf3 M3
                go_wp2_with fail
                refine calls_world fun Wa hWa => ?_
                have HA := hid (show RunE w.heap.size p cb qb pb rp vb rq stb A0 A1 n (j + 1) sl _ _ _ _ _ w Wa from hWa ▸ H5.out)
                clear hWa
                refine (now_any w.heap.size p cb qb _ _ _ _ _ Wa HA.out.ep).mono ?_
                rintro e Wb ⟨rfl, n1, rfl⟩
                go_wp2_with fail
                refine calls_world fun Wb hWb => ?_
                have HB := hid (show RunE w.heap.size p cb qb pb rp vb rq stb A0 A1 n (j + 1) sl _ _ _ _ _ w Wb from hWb ▸ HA.out.drewN n1)
                clear hWb
                refine (rnow_any w.heap.size rp vb rq stb _ _ _ _ _ _ Wb HB.out.re).mono ?_
                rintro e Wc ⟨rfl, n2, rfl⟩
                go_wp2_with fail
                refine calls_world fun Wc hWc => ?_
                have HC := hid (show RunE w.heap.size p cb qb pb rp vb rq stb A0 A1 n (j + 1) sl _ _ _ _ _ w Wc from hWc ▸ HB.out.drewN n2)
                clear hWc
                refine (pinned_any w.heap.size p cb qb _ _ _ _ _ Wc HC.out.ep).mono ?_
                rintro e Wd ⟨v1, rfl, hr1, c1⟩
                obtain ⟨B1, k1, hv1, _⟩ := own_slice hr1
                subst hv1
                have HD := hid (HC.out.keep c1)
                have HR1 := hid hr1
                clear hr1 c1
                go_wp2_with fail
                refine (rpinned_any w.heap.size rp vb rq stb _ _ _ _ _ _ Wd HD.out.re).mono ?_
                rintro e We ⟨v2, rfl, hr2, c2⟩
                obtain ⟨B2, k2, hv2, _⟩ := own_slice hr2
                subst hv2
                have HE2 := hid (HD.out.keep c2)
                have HR1b := hid (c2.own HR1.out (fun _ _ => id))
                have HR2 := hid hr2
                have hpl := pinL_le (s.store ev.t ((lawE n).slot k : Nat) 0) (lawE n) (lawE n).n
                have hpl2 : (lawE n).n ≤ 5 := HE2.out.n5
                clear hr2 c2
                go_wp2_with fail
                refine (eqInts_any _ _ _ _ _ _ We (ints_of_own HR1b.out) (ints_of_own HR2.out) (by omega)).mono ?_
                rintro e Wf ⟨rfl, n5, rfl⟩
                clear hpl hpl2
                go_wp2_with fail
                go_roundw
                case rel => exact ⟨j + 1, by omega, by go_num, _, _, _, _, _, rfl, rfl, HE2.out.drewN n5⟩
                case measure => simp [intOf]; omega
              · have hph : q.ph = 9 ∨ q.ph = 10 := p3.resolve_left h0
                have HPH := hid hph
                have HS := hid (show lk (stOf gp) k = 1 by rw [st_at HO.out]; exact if_neg h0)
                clear hps p1 p3 p4 h0 hph
                go_wp2_with fail
                refine (unpin_state w.heap.size p cb qb pb lv s (lawE n) (scV gs) (psOf gp) wz H.out.ep H.out.pa (by simp [psOf]; exact H.out.len) ev.t k HCK.out g HP.out q HQ.out HPH.out).mono ?_
                rintro e w2 ⟨rfl, rfl⟩
                go_wp2_with fail
                refine (runpin_state w.heap.size rp vb rq stb mv s (lawE n) sl (stOf gp) (scnOf gs) wz H.out.re ev.t k HCK.out HS.out).mono ?_
                rintro e w2 ⟨rfl, rfl⟩
                go_wp2_with fail
                refine calls_world fun Wa hWa => ?_
                have HA := hid (show RunE w.heap.size p cb qb pb rp vb rq stb A0 A1 n (j + 1) sl _ _ _ _ _ w Wa from hWa ▸ H.out.mono (by omega) (by omega))
                clear hWa
                refine (now_any w.heap.size p cb qb _ _ _ _ _ Wa HA.out.ep).mono ?_
                rintro e Wb ⟨rfl, n1, rfl⟩
                go_wp2_with fail
                refine calls_world fun Wb hWb => ?_
                have HB := hid (show RunE w.heap.size p cb qb pb rp vb rq stb A0 A1 n (j + 1) sl _ _ _ _ _ w Wb from hWb ▸ HA.out.drewN n1)
                clear hWb
                refine (rnow_any w.heap.size rp vb rq stb _ _ _ _ _ _ Wb HB.out.re).mono ?_
                rintro e Wc ⟨rfl, n2, rfl⟩
                go_wp2_with fail
                refine calls_world fun Wc hWc => ?_
                have HC := hid (show RunE w.heap.size p cb qb pb rp vb rq stb A0 A1 n (j + 1) sl _ _ _ _ _ w Wc from hWc ▸ HB.out.drewN n2)
                clear hWc
                refine (pinned_any w.heap.size p cb qb _ _ _ _ _ Wc HC.out.ep).mono ?_
                rintro e Wd ⟨v1, rfl, hr1, c1⟩
                obtain ⟨B1, k1, hv1, _⟩ := own_slice hr1
                subst hv1
                have HD := hid (HC.out.keep c1)
                have HR1 := hid hr1
                clear hr1 c1
                go_wp2_with fail
                refine (rpinned_any w.heap.size rp vb rq stb _ _ _ _ _ _ Wd HD.out.re).mono ?_
                rintro e We ⟨v2, rfl, hr2, c2⟩
                obtain ⟨B2, k2, hv2, _⟩ := own_slice hr2
                subst hv2
                have HE2 := hid (HD.out.keep c2)
                have HR1b := hid (c2.own HR1.out (fun _ _ => id))
                have HR2 := hid hr2
                have hpl := pinL_le s (lawE n) (lawE n).n
                have hpl2 : (lawE n).n ≤ 5 := HE2.out.n5
                clear hr2 c2
                go_wp2_with fail
                refine (eqInts_any _ _ _ _ _ _ We (ints_of_own HR1b.out) (ints_of_own HR2.out) (by omega)).mono ?_
                rintro e Wf ⟨rfl, n5, rfl⟩
                clear hpl hpl2
                go_wp2_with fail
                go_roundw
                case rel => exact ⟨j + 1, by omega, by go_num, _, _, _, _, _, rfl, rfl, HE2.out.drewN n5⟩
                case measure => simp [intOf]; omega
          · obtain ⟨E0, hE0⟩ : ∃ E0, E0 = ckerr (lawE n) ev.t ev.k := ⟨_, rfl⟩
            have PB := unpin_bad w.heap.size p cb qb pb lv s (lawE n) (scV gs) (psOf gp) wz H.out.ep H.out.pa (by simp [psOf]; exact H.out.len) ev.t ev.k hck
            have RB := runpin_bad w.heap.size rp vb rq stb mv s (lawE n) sl (stOf gp) (scnOf gs) wz H.out.re ev.t ev.k hck
            rw [← hE0] at PB RB
            have bE : (E0 != E0) = false := by simp
            clear hck hE0
            go_wp2_with fail
            refine PB.mono ?_
            rintro e w2 ⟨rfl, rfl⟩
            clear PB
            go_wp2_with fail
            refine RB.mono ?_
            rintro e w2 ⟨rfl, rfl⟩
            clear RB
            go_wp2_with fail
            refine calls_world fun Wa hWa => ?_
            have HA := hid (show RunE w.heap.size p cb qb pb rp vb rq stb A0 A1 n (j + 1) sl _ _ _ _ _ w Wa from hWa ▸ H.out.mono (by omega) (by omega))
            clear hWa
            refine (now_any w.heap.size p cb qb _ _ _ _ _ Wa HA.out.ep).mono ?_
            rintro e Wb ⟨rfl, n1, rfl⟩
            go_wp2_with fail
            refine calls_world fun Wb hWb => ?_
            have HB := hid (show RunE w.heap.size p cb qb pb rp vb rq stb A0 A1 n (j + 1) sl _ _ _ _ _ w Wb from hWb ▸ HA.out.drewN n1)
            clear hWb
            refine (rnow_any w.heap.size rp vb rq stb _ _ _ _ _ _ Wb HB.out.re).mono ?_
            rintro e Wc ⟨rfl, n2, rfl⟩
            go_wp2_with fail
            refine calls_world fun Wc hWc => ?_
            have HC := hid (show RunE w.heap.size p cb qb pb rp vb rq stb A0 A1 n (j + 1) sl _ _ _ _ _ w Wc from hWc ▸ HB.out.drewN n2)
            clear hWc
            refine (pinned_any w.heap.size p cb qb _ _ _ _ _ Wc HC.out.ep).mono ?_
            rintro e Wd ⟨v1, rfl, hr1, c1⟩
            obtain ⟨B1, k1, hv1, _⟩ := own_slice hr1
            subst hv1
            have HD := hid (HC.out.keep c1)
            have HR1 := hid hr1
            clear hr1 c1
            go_wp2_with fail
            refine (rpinned_any w.heap.size rp vb rq stb _ _ _ _ _ _ Wd HD.out.re).mono ?_
            rintro e We ⟨v2, rfl, hr2, c2⟩
            obtain ⟨B2, k2, hv2, _⟩ := own_slice hr2
            subst hv2
            have HE2 := hid (HD.out.keep c2)
            have HR1b := hid (c2.own HR1.out (fun _ _ => id))
            have HR2 := hid hr2
            have hpl := pinL_le s (lawE n) (lawE n).n
            have hpl2 : (lawE n).n ≤ 5 := HE2.out.n5
            clear hr2 c2
            go_wp2_with fail
            refine (eqInts_any _ _ _ _ _ _ We (ints_of_own HR1b.out) (ints_of_own HR2.out) (by omega)).mono ?_
            rintro e Wf ⟨rfl, n5, rfl⟩
            clear hpl hpl2
            go_wp2_with fail
            go_roundw
            case rel => exact ⟨j + 1, by omega, by go_num, _, _, _, _, _, rfl, rfl, HE2.out.drewN n5⟩
            case measure => simp [intOf]; omega
      have e2 : (ev.d % 5 == 2) = false := by rw [beq_eq_false_iff_ne]; exact h2
      by_cases h3 : ev.d % 5 = 3
      · have e3 : (ev.d % 5 == 3) = true := by rw [beq_iff_eq]; exact h3
        clear h0 h1 h2 h3
        as_aux_lemma =>
          by_cases hb : ev.t < 0 ∨ 16 ≤ ev.t
          · go_wp2_with fail
            refine (scan_bad w.heap.size p cb qb lv s (lawE n) (pinsV pb n) (scV gs) wz H.out.ep ev.t hb).mono ?_
            rintro e w2 ⟨rfl, rfl⟩
            go_wp2_with fail
            refine (rscan_bad w.heap.size rp vb rq stb mv s (lawE n) sl (stOf gp) (scnOf gs) wz H.out.re ev.t hb).mono ?_
            rintro e w2 ⟨rfl, rfl⟩
            go_wp2_with fail
            refine calls_world fun Wa hWa => ?_
            have HA := hid (show RunE w.heap.size p cb qb pb rp vb rq stb A0 A1 n (j + 1) sl _ _ _ _ _ w Wa from hWa ▸ H.out.mono (by omega) (by omega))
            clear hWa
            refine (now_any w.heap.size p cb qb _ _ _ _ _ Wa HA.out.ep).mono ?_
            rintro e Wb ⟨rfl, n1, rfl⟩
            go_wp2_with fail
            refine calls_world fun Wb hWb => ?_
            have HB := hid (show RunE w.heap.size p cb qb pb rp vb rq stb A0 A1 n (j + 1) sl _ _ _ _ _ w Wb from hWb ▸ HA.out.drewN n1)
            clear hWb
            refine (rnow_any w.heap.size rp vb rq stb _ _ _ _ _ _ Wb HB.out.re).mono ?_
            rintro e Wc ⟨rfl, n2, rfl⟩
            go_wp2_with fail
            refine calls_world fun Wc hWc => ?_
            have HC := hid (show RunE w.heap.size p cb qb pb rp vb rq stb A0 A1 n (j + 1) sl _ _ _ _ _ w Wc from hWc ▸ HB.out.drewN n2)
            clear hWc
            refine (pinned_any w.heap.size p cb qb _ _ _ _ _ Wc HC.out.ep).mono ?_
            rintro e Wd ⟨v1, rfl, hr1, c1⟩
            obtain ⟨B1, k1, hv1, _⟩ := own_slice hr1
            subst hv1
            have HD := hid (HC.out.keep c1)
            have HR1 := hid hr1
            clear hr1 c1
            go_wp2_with fail
            refine (rpinned_any w.heap.size rp vb rq stb _ _ _ _ _ _ Wd HD.out.re).mono ?_
            rintro e We ⟨v2, rfl, hr2, c2⟩
            obtain ⟨B2, k2, hv2, _⟩ := own_slice hr2
            subst hv2
            have HE2 := hid (HD.out.keep c2)
            have HR1b := hid (c2.own HR1.out (fun _ _ => id))
            have HR2 := hid hr2
            have hpl := pinL_le s (lawE n) (lawE n).n
            have hpl2 : (lawE n).n ≤ 5 := HE2.out.n5
            clear hr2 c2
            go_wp2_with fail
            refine (eqInts_any _ _ _ _ _ _ We (ints_of_own HR1b.out) (ints_of_own HR2.out) (by omega)).mono ?_
            rintro e Wf ⟨rfl, n5, rfl⟩
            clear hpl hpl2
            go_wp2_with fail
            go_roundw
            case rel => exact ⟨j + 1, by omega, by go_num, _, _, _, _, _, rfl, rfl, HE2.out.drewN n5⟩
            case measure => simp [intOf]; omega
          · have ht : 0 ≤ ev.t ∧ ev.t < 16 := by omega
            have HT := hid ht
            clear hb ht
            by_cases hs : scnOf gs = true
            · obtain ⟨g, g', q, a, rfl⟩ : ∃ g g' q a, gs = some (g, g', q, a) := by
                match gs, hs with
                | some (g, g', q, a), _ => exact ⟨g, g', q, a, rfl⟩
              obtain ⟨p1, p2⟩ := H.out.sc g g' q a rfl
              have hph : q.ph = 34 ∨ q.ph = 35 := by
                have hz : (q.ph != 0) = true := hs
                rw [bne_iff_ne] at hz
                rcases p2 with e | ⟨e, _⟩ | e
                · exact absurd e hz
                · exact .inl e
                · exact .inr e
              have HPH := hid hph
              have HS := hid hs
              clear p1 p2 hph hs
              go_wp2_with fail
              refine (scan_busy w.heap.size p cb qb lv s (lawE n) (pinsV pb n) (scV (some (g, g', q, a))) wz H.out.ep ev.t HT.out g q rfl (H.out.mem.each 5 _ rfl) HPH.out).mono ?_
              rintro e w2 ⟨rfl, rfl⟩
              go_wp2_with fail
              refine (rscan_busy w.heap.size rp vb rq stb mv s (lawE n) sl (stOf gp) (scnOf (some (g, g', q, a))) wz H.out.re ev.t HT.out HS.out).mono ?_
              rintro e w2 ⟨rfl, rfl⟩
              go_wp2_with fail
              refine calls_world fun Wa hWa => ?_
              have HA := hid (show RunE w.heap.size p cb qb pb rp vb rq stb A0 A1 n (j + 1) sl _ _ _ _ _ w Wa from hWa ▸ H.out.mono (by omega) (by omega))
              clear hWa
              refine (now_any w.heap.size p cb qb _ _ _ _ _ Wa HA.out.ep).mono ?_
              rintro e Wb ⟨rfl, n1, rfl⟩
              go_wp2_with fail
              refine calls_world fun Wb hWb => ?_
              have HB := hid (show RunE w.heap.size p cb qb pb rp vb rq stb A0 A1 n (j + 1) sl _ _ _ _ _ w Wb from hWb ▸ HA.out.drewN n1)
              clear hWb
              refine (rnow_any w.heap.size rp vb rq stb _ _ _ _ _ _ Wb HB.out.re).mono ?_
              rintro e Wc ⟨rfl, n2, rfl⟩
              go_wp2_with fail
              refine calls_world fun Wc hWc => ?_
              have HC := hid (show RunE w.heap.size p cb qb pb rp vb rq stb A0 A1 n (j + 1) sl _ _ _ _ _ w Wc from hWc ▸ HB.out.drewN n2)
              clear hWc
              refine (pinned_any w.heap.size p cb qb _ _ _ _ _ Wc HC.out.ep).mono ?_
              rintro e Wd ⟨v1, rfl, hr1, c1⟩
              obtain ⟨B1, k1, hv1, _⟩ := own_slice hr1
              subst hv1
              have HD := hid (HC.out.keep c1)
              have HR1 := hid hr1
              clear hr1 c1
              go_wp2_with fail
              refine (rpinned_any w.heap.size rp vb rq stb _ _ _ _ _ _ Wd HD.out.re).mono ?_
              rintro e We ⟨v2, rfl, hr2, c2⟩
              obtain ⟨B2, k2, hv2, _⟩ := own_slice hr2
              subst hv2
              have HE2 := hid (HD.out.keep c2)
              have HR1b := hid (c2.own HR1.out (fun _ _ => id))
              have HR2 := hid hr2
              have hpl := pinL_le s (lawE n) (lawE n).n
              have hpl2 : (lawE n).n ≤ 5 := HE2.out.n5
              clear hr2 c2
              go_wp2_with fail
              refine (eqInts_any _ _ _ _ _ _ We (ints_of_own HR1b.out) (ints_of_own HR2.out) (by omega)).mono ?_
              rintro e Wf ⟨rfl, n5, rfl⟩
              clear hpl hpl2
              go_wp2_with fail
              go_roundw
              case rel => exact ⟨j + 1, by omega, by go_num, _, _, _, _, _, rfl, rfl, HE2.out.drewN n5⟩
              case measure => simp [intOf]; omega
            · have HS := hid (show scnOf gs = false by simpa using hs)
              have HRE := hid (show SRests wz qb (scV gs) by
                match gs, H, hs with
                | none, _, _ => exact .inl rfl
                | some (g, g', q, a), H, hs => exact .inr ⟨g, q, rfl, H.out.mem.each 5 _ rfl, by have : ¬ (q.ph != 0) = true := hs; simpa using this⟩)
              clear hs
              go_wp2_with fail
              refine (scan_ok w.heap.size p cb qb lv s (lawE n) (pinsV pb n) (scV gs) wz H.out.ep ev.t HT.out HRE.out).mono ?_
              rintro e w2 ⟨g, rfl, hM2, hq2, ch2, hg2⟩
              have M2 := hid (H.out.scanI hM2 hq2 ch2 hg2)
              clear hM2 hq2 ch2 hg2
              go_wp2_with fail
              refine (rscan_ok w.heap.size rp vb rq stb mv s (lawE n) sl (stOf gp) (scnOf gs) w2 (M2.out.each 2 _ rfl) ev.t HT.out HS.out).mono ?_
              rintro e w3 ⟨g', rfl, hM3, hq3, ch3, hg3⟩
              have M3 := RunE.scanR (q := snBeg (lawE n) ⟨ev.t, 0, false, 0⟩) M2.out hM3 hq3 ch3 hg3
              have H5 := hid (H.out.scanned (q := snBeg (lawE n) ⟨ev.t, 0, false, 0⟩) ⟨HT.out, by
                unfold snBeg
                by_cases hn0 : 0 < n
                · left
                  exact ⟨if_pos hn0, hn0, rfl⟩
                · right
                  exact if_neg hn0⟩ M3)
              clear hM3 hq3 ch3 hg3 M3
              go_wp2_with fail
              refine calls_world fun Wa hWa => ?_
              have HA := hid (show RunE w.heap.size p cb qb pb rp vb rq stb A0 A1 n (j + 1) sl _ _ _ _ _ w Wa from hWa ▸ H5.out.mono (by omega) (by omega))
              clear hWa
              refine (now_any w.heap.size p cb qb _ _ _ _ _ Wa HA.out.ep).mono ?_
              rintro e Wb ⟨rfl, n1, rfl⟩
              go_wp2_with fail
              refine calls_world fun Wb hWb => ?_
              have HB := hid (show RunE w.heap.size p cb qb pb rp vb rq stb A0 A1 n (j + 1) sl _ _ _ _ _ w Wb from hWb ▸ HA.out.drewN n1)
              clear hWb
              refine (rnow_any w.heap.size rp vb rq stb _ _ _ _ _ _ Wb HB.out.re).mono ?_
              rintro e Wc ⟨rfl, n2, rfl⟩
              go_wp2_with fail
              refine calls_world fun Wc hWc => ?_
              have HC := hid (show RunE w.heap.size p cb qb pb rp vb rq stb A0 A1 n (j + 1) sl _ _ _ _ _ w Wc from hWc ▸ HB.out.drewN n2)
              clear hWc
              refine (pinned_any w.heap.size p cb qb _ _ _ _ _ Wc HC.out.ep).mono ?_
              rintro e Wd ⟨v1, rfl, hr1, c1⟩
              obtain ⟨B1, k1, hv1, _⟩ := own_slice hr1
              subst hv1
              have HD := hid (HC.out.keep c1)
              have HR1 := hid hr1
              clear hr1 c1
              go_wp2_with fail
              refine (rpinned_any w.heap.size rp vb rq stb _ _ _ _ _ _ Wd HD.out.re).mono ?_
              rintro e We ⟨v2, rfl, hr2, c2⟩
              obtain ⟨B2, k2, hv2, _⟩ := own_slice hr2
              subst hv2
              have HE2 := hid (HD.out.keep c2)
              have HR1b := hid (c2.own HR1.out (fun _ _ => id))
              have HR2 := hid hr2
              have hpl := pinL_le s (lawE n) (lawE n).n
              have hpl2 : (lawE n).n ≤ 5 := HE2.out.n5
              clear hr2 c2
              go_wp2_with fail
              refine (eqInts_any _ _ _ _ _ _ We (ints_of_own HR1b.out) (ints_of_own HR2.out) (by omega)).mono ?_
              rintro e Wf ⟨rfl, n5, rfl⟩
              clear hpl hpl2
              go_wp2_with fail
              go_roundw
              case rel => exact ⟨j + 1, by omega, by go_num, _, _, _, _, _, rfl, rfl, HE2.out.drewN n5⟩
              case measure => simp [intOf]; omega
      have e3 : (ev.d % 5 == 3) = false := by rw [beq_eq_false_iff_ne]; exact h3
      clear h0 h1 h2 h3
      as_aux_lemma =>
        match gs, H, HN with
        | none, H, HN =>
          go_wp2_with fail
          refine (sn_next_nil _).mono ?_
          rintro e w2 ⟨rfl, rfl⟩
          go_wp2_with fail
          refine (rsn_next_nil _).mono ?_
          rintro e w2 ⟨rfl, rfl⟩
          go_wp2_with fail
          refine (sn_step_nil _).mono ?_
          rintro e w2 ⟨rfl, rfl⟩
          go_wp2_with fail
          refine (rsn_step_nil _).mono ?_
          rintro e w2 ⟨rfl, rfl⟩
          go_wp2_with fail
          refine (sn_res_nil _).mono ?_
          rintro e w2 ⟨rfl, rfl⟩
          go_wp2_with fail
          refine (rsn_res_nil _).mono ?_
          rintro e w2 ⟨rfl, rfl⟩
          go_wp2_with fail
          refine (sn_next_nil _).mono ?_
          rintro e w2 ⟨rfl, rfl⟩
          go_wp2_with fail
          refine (rsn_next_nil _).mono ?_
          rintro e w2 ⟨rfl, rfl⟩
          go_wp2_with fail
          refine calls_world fun Wa hWa => ?_
          have HA := hid (show RunE w.heap.size p cb qb pb rp vb rq stb A0 A1 n (j + 1) sl _ _ _ _ _ w Wa from hWa ▸ H.out.mono (by omega) (by omega))
          clear hWa
          refine (now_any w.heap.size p cb qb _ _ _ _ _ Wa HA.out.ep).mono ?_
          rintro e Wb ⟨rfl, n1, rfl⟩
          go_wp2_with fail
          refine calls_world fun Wb hWb => ?_
          have HB := hid (show RunE w.heap.size p cb qb pb rp vb rq stb A0 A1 n (j + 1) sl _ _ _ _ _ w Wb from hWb ▸ HA.out.drewN n1)
          clear hWb
          refine (rnow_any w.heap.size rp vb rq stb _ _ _ _ _ _ Wb HB.out.re).mono ?_
          rintro e Wc ⟨rfl, n2, rfl⟩
          go_wp2_with fail
          refine calls_world fun Wc hWc => ?_
          have HC := hid (show RunE w.heap.size p cb qb pb rp vb rq stb A0 A1 n (j + 1) sl _ _ _ _ _ w Wc from hWc ▸ HB.out.drewN n2)
          clear hWc
          refine (pinned_any w.heap.size p cb qb _ _ _ _ _ Wc HC.out.ep).mono ?_
          rintro e Wd ⟨v1, rfl, hr1, c1⟩
          obtain ⟨B1, k1, hv1, _⟩ := own_slice hr1
          subst hv1
          have HD := hid (HC.out.keep c1)
          have HR1 := hid hr1
          clear hr1 c1
          go_wp2_with fail
          refine (rpinned_any w.heap.size rp vb rq stb _ _ _ _ _ _ Wd HD.out.re).mono ?_
          rintro e We ⟨v2, rfl, hr2, c2⟩
          obtain ⟨B2, k2, hv2, _⟩ := own_slice hr2
          subst hv2
          have HE2 := hid (HD.out.keep c2)
          have HR1b := hid (c2.own HR1.out (fun _ _ => id))
          have HR2 := hid hr2
          have hpl := pinL_le s (lawE n) (lawE n).n
          have hpl2 : (lawE n).n ≤ 5 := HE2.out.n5
          clear hr2 c2
          go_wp2_with fail
          refine (eqInts_any _ _ _ _ _ _ We (ints_of_own HR1b.out) (ints_of_own HR2.out) (by omega)).mono ?_
          rintro e Wf ⟨rfl, n5, rfl⟩
          clear hpl hpl2
          go_wp2_with fail
          go_roundw
          case rel => exact ⟨j + 1, by omega, by go_num, _, _, _, _, _, rfl, rfl, HE2.out.drewN n5⟩
          case measure => simp [intOf]; omega
        | some (g, g', q, a), H, HN =>
          obtain ⟨p1, p2⟩ := H.out.sc g g' q a rfl
          have HP2 := hid p2
          have HQ := hid (show Blk wz g 124 (snCells qb g q) from H.out.mem.each 5 _ rfl)
          have HRQ := hid (show Blk wz g' 126 (rsnCells rq q a) from H.out.mem.each 6 _ rfl)
          have bq : (q.ph != q.ph) = false := by simp
          clear p2
          go_wp2_with fail
          refine (sn_next qb g wz q HQ.out).mono ?_
          rintro e w2 ⟨rfl, rfl⟩
          go_wp2_with fail
          refine (rsn_next rq g' wz q a HRQ.out).mono ?_
          rintro e w2 ⟨rfl, rfl⟩
          go_wp2_with fail
          refine (sn_step w.heap.size p cb qb g lv s (lawE n) (pinsV pb n) (scV (some (g, g', q, a))) q wz H.out.ep HQ.out p1 (by have := H.out.lg; omega) H.out.mem.bz (HP2.out.imp id (fun e => e.imp (fun e => ⟨e.1, e.2.1⟩) id))).mono ?_
          rintro e w2 ⟨rfl, lv', hM2, hq2, ch2, hf2⟩
          have M2 := hid (H.out.sstepI rfl hM2 hq2 ch2 hf2)
          clear hM2 hq2 ch2 hf2 HQ HRQ
          go_wp2_with fail
          refine (rsn_step w.heap.size rp vb rq stb g' mv s (lawE n) sl (stOf gp) (scnOf (some (g, g', q, a))) q a w2 (M2.out.each 2 _ rfl) (M2.out.each 6 _ rfl) p1 (by have := H.out.lg; omega) M2.out.bz HP2.out rfl).mono ?_
          rintro e w3 ⟨a', ha', rfl, mv', hM3, hq3, ch3, hf3⟩
          have M3 := RunE.sstepR rfl M2.out hM3 hq3 ch3 hf3
          have H4 := H.out.sstepped rfl (snlg H.out.lg HP2.out) (by omega) rfl ha' M3
          obtain ⟨oo, hoo⟩ : ∃ oo, oo = snstep s (lawE n) q := ⟨_, rfl⟩
          rw [← hoo] at H4 ⊢
          have bo : ((oo.2.ph == 0) != (oo.2.ph == 0)) = false := by simp
          have bo2 : (oo.2.ph != oo.2.ph) = false := by simp
          have br : snResR oo.2 = snRes oo.2 := rfl
          obtain ⟨rr, hrr⟩ : ∃ rr, rr = snRes oo.2 := ⟨_, rfl⟩
          have br1 : (rr.1 != rr.1) = false := by simp
          have br2 : (rr.2 != rr.2) = false := by simp
          have hsc4 := (H4.sc g g' oo.2 a' rfl).2
          have HSC := hid (show oo.2.ph = 0 ∨ oo.2.ph = 34 ∨ oo.2.ph = 35 from hsc4.imp id (fun e => e.imp (fun e => e.1) id))
          have H4 := hid H4
          have HBR := hid br
          have HRR := hid hrr
          clear hM3 hq3 ch3 hf3 M3 hoo ha' br hrr hsc4
          go_wp2_with fail
          refine (sn_result qb g w3 oo.2 (H4.out.mem.each 5 _ rfl) HSC.out).mono ?_
          rintro e w4 ⟨rfl, rfl⟩
          rw [← HRR.out]
          go_wp2_with fail
          refine (rsn_result rq g' w3 oo.2 a' (H4.out.mem.each 6 _ rfl)).mono ?_
          rintro e w4 ⟨rfl, rfl⟩
          rw [HBR.out, ← HRR.out]
          go_wp2_with fail
          refine (sn_next qb g w3 oo.2 (H4.out.mem.each 5 _ rfl)).mono ?_
          rintro e w4 ⟨rfl, rfl⟩
          go_wp2_with fail
          refine (rsn_next rq g' w3 oo.2 a' (H4.out.mem.each 6 _ rfl)).mono ?_
          rintro e w4 ⟨rfl, rfl⟩
          go_wp2_with fail
          refine calls_world fun Wa hWa => ?_
          have HA := hid (show RunE w.heap.size p cb qb pb rp vb rq stb A0 A1 n (j + 1) sl _ _ _ _ _ w Wa from hWa ▸ H4.out)
          clear hWa
          refine (now_any w.heap.size p cb qb _ _ _ _ _ Wa HA.out.ep).mono ?_
          rintro e Wb ⟨rfl, n1, rfl⟩
          go_wp2_with fail
          refine calls_world fun Wb hWb => ?_
          have HB := hid (show RunE w.heap.size p cb qb pb rp vb rq stb A0 A1 n (j + 1) sl _ _ _ _ _ w Wb from hWb ▸ HA.out.drewN n1)
          clear hWb
          refine (rnow_any w.heap.size rp vb rq stb _ _ _ _ _ _ Wb HB.out.re).mono ?_
          rintro e Wc ⟨rfl, n2, rfl⟩
          go_wp2_with fail
          refine calls_world fun Wc hWc => ?_
          have HC := hid (show RunE w.heap.size p cb qb pb rp vb rq stb A0 A1 n (j + 1) sl _ _ _ _ _ w Wc from hWc ▸ HB.out.drewN n2)
          clear hWc
          refine (pinned_any w.heap.size p cb qb _ _ _ _ _ Wc HC.out.ep).mono ?_
          rintro e Wd ⟨v1, rfl, hr1, c1⟩
          obtain ⟨B1, k1, hv1, _⟩ := own_slice hr1
          subst hv1
          have HD := hid (HC.out.keep c1)
          have HR1 := hid hr1
          clear hr1 c1
          go_wp2_with fail
          refine (rpinned_any w.heap.size rp vb rq stb _ _ _ _ _ _ Wd HD.out.re).mono ?_
          rintro e We ⟨v2, rfl, hr2, c2⟩
          obtain ⟨B2, k2, hv2, _⟩ := own_slice hr2
          subst hv2
          have HE2 := hid (HD.out.keep c2)
          have HR1b := hid (c2.own HR1.out (fun _ _ => id))
          have HR2 := hid hr2
          have hpl := pinL_le oo.1 (lawE n) (lawE n).n
          have hpl2 : (lawE n).n ≤ 5 := HE2.out.n5
          clear hr2 c2
          go_wp2_with fail
          refine (eqInts_any _ _ _ _ _ _ We (ints_of_own HR1b.out) (ints_of_own HR2.out) (by omega)).mono ?_
          rintro e Wf ⟨rfl, n5, rfl⟩
          clear hpl hpl2
          go_wp2_with fail
          go_roundw
          case rel => exact ⟨j + 1, by omega, by go_num, _, _, _, _, _, (show scV (some (g, g', q, a)) = scV (some (g, g', oo.2, a')) from rfl), (show rscV (some (g, g', q, a)) = rscV (some (g, g', oo.2, a')) from rfl), HE2.out.drewN n5⟩
          case measure => simp [intOf]; omega
    · obtain rfl : j = len := by omega
      have d1 : decide (j < j) = false := decide_eq_false (by omega)
      have H := hid hR
      clear hR
      as_aux_lemma =>
        go_wp2_with fail
        obtain ⟨S, hS⟩ : ∃ S : Nat → Prop, ∀ k, S k ↔ k = rp := ⟨_, fun _ => Iff.rfl⟩
        have hSp : Mix.Has S rp := (hS _).2 rfl
        have HS := hid hS
        obtain ⟨Ar, cr, hmv, hcr, hacc⟩ := own_accs H.out.re.r.hl
        subst hmv
        have r1 : wr.cell? ⟨rp, 1, none⟩ = some (.slice Ar s.lg.length cr) := H.out.re.r.hp.cell 1
        have hlg := H.out.lg
        have HAC := hid hacc
        clear hS hacc
        refine Mix.wp_region_mix S (fun i => ([0, 3, 1, 1, 1, 4, 0, 0] : List Nat).getD i 0) [0, 2, 3, 4, 5, 1, 6, 7] (by kernel_rfl) (by kernel_rfl) ?_
        repeat (first | (refine Mix.mix_q (by simp only [List.getElem?_toArray, List.getElem?_cons_zero, List.getElem?_cons_succ]; exact rfl) rfl ?_; go_big_quiet_step (fail); refine wpQuiet_nil ?_) | (refine Mix.mix_p (by simp only [List.getElem?_toArray, List.getElem?_cons_zero, List.getElem?_cons_succ]; exact rfl) rfl rfl ?_; go_big_quiet_step (fail); refine wpQuiet_nil ?_) | (refine Mix.mix_s (by simp only [List.getElem?_toArray, List.getElem?_cons_zero, List.getElem?_cons_succ]; exact rfl) rfl rfl ?_; go_big_quiet_step (fail); refine wpQuiet_nil ?_))
        refine Mix.mix_a (by simp only [List.getElem?_toArray, List.getElem?_cons_zero, List.getElem?_cons_succ]; exact rfl) rfl fun W1 hW1 => ?_
        obtain ⟨n1, rfl⟩ := hW1
        go_wp2_with fail
        refine (log_any w.heap.size p cb lv s 0 _ (bank_drew H.out.ep.b n1) (by omega)).mono ?_
        rintro e w2 ⟨gl, rfl, hlog, hc2, hgl⟩
        have hcut : cutAt 0 s.lg.length = 0 := by simp [cutAt]
        rw [hcut, List.drop_zero] at hlog ⊢
        have ch2 : Ch (fun _ => False) wr w2 := hc2.ofDrewN
        have HLOG := hid hlog
        have HAC2 := hid (HAC.out.ch ch2 (fun _ _ _ => id))
        have H2 := hid (H.out.keep ch2)
        have hkeep : Mix.Keep S wr w2 := fun j hj => by rw [(HS.out j).1 hj]; exact ch2.block rp H.out.re.r.hp.lt id
        clear hcut hlog hc2 r1
        go_wp2_with fail
        refine ⟨hkeep, ?_⟩
        clear hkeep
        repeat (first | (refine Mix.mix_q (by simp only [List.getElem?_toArray, List.getElem?_cons_zero, List.getElem?_cons_succ]; exact rfl) rfl ?_; go_big_quiet_step ((go_at_call 38; exact eqAccs_q _ _ _ _ _ _ _ _ (blk_accs HLOG.out) HAC2.out (by omega) _)); refine wpQuiet_nil ?_) | (refine Mix.mix_p (by simp only [List.getElem?_toArray, List.getElem?_cons_zero, List.getElem?_cons_succ]; exact rfl) rfl rfl ?_; go_big_quiet_step (fail); refine wpQuiet_nil ?_) | (refine Mix.mix_s (by simp only [List.getElem?_toArray, List.getElem?_cons_zero, List.getElem?_cons_succ]; exact rfl) rfl rfl ?_; go_big_quiet_step (fail); refine wpQuiet_nil ?_))
        intro n3
        go_wp2_with fail
        go_ret
        exact ⟨rfl, (H2.out.drewN n3).mem.bel⟩
end Go.Proofs.Ytokcodeeaneeaaa
