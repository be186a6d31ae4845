/- ReaderPieces: the walk. -/
import Derived.Test.YtjcdknhejcbpiaaGreatPb48
import Derived.Test.YtjcdknhejcbpiaaGreatPb22
import Derived.Test.YtjcdknhejcbpiaaGreatPb05
namespace Go.Proofs.YtjcdknhejcbpiaaGreat
open Go.RowKit
set_option linter.unusedVariables false
set_option linter.unusedSimpArgs false
set_option linter.unusedSectionVars false


theorem cat_data (a b : ByteArray) : (a ++ b).data.toList = a.data.toList ++ b.data.toList := by simp
theorem take_min (l : List UInt8) (q z : Nat) : l.take q ++ (l.drop q).take z = l.take (q + min z (l.length - q)) := by
  rw [List.take_add, ← List.length_drop, ← List.take_eq_take_min]
theorem lk_memP {l : List Int} {k : Nat} (h : k < l.length) : lk l k ∈ l := by
  unfold lk
  rw [List.getD_eq_getElem?_getD, List.getElem?_eq_getElem h]
  exact List.getElem_mem h
theorem ba_ext {a b : ByteArray} (h : a.data.toList = b.data.toList) : a = b := by
  cases a; cases b
  simp at h
  rw [h]
set_option maxRecDepth 100000 in
set_option maxHeartbeats 8000000 in
theorem pieces_walk (s : ByteArray) (a : Option Addr) (nn c : Nat) (zs : List Int) (w0 : World) (hs : s.size ≤ maxLen) (h : InInts .u8 w0 a nn zs) :
    Calls Tryz.prog 5 #[.string s, .slice a nn c] w0 fun e w' => e = .returned (.bool true) ∧ Below w0.heap.size w0 w' := by
  have HE := hid h
  clear h hs
  by_cases h1 : 300 < s.size
  · have d1 : decide (300 < s.size) = true := decide_eq_true h1
    have d1' : decide ((300 : Int) < (s.size : Int)) = true := decide_eq_true (by omega)
    go_enter Tryz.func5, Tryz.ntmps5
    go_wp2_with fail
    go_ret
    exact ⟨rfl, Below.refl _ _⟩
  have d1 : decide (300 < s.size) = false := decide_eq_false h1
  have d1' : decide ((300 : Int) < (s.size : Int)) = false := decide_eq_false (by omega)
  have h1 : s.size ≤ 300 := by omega
  by_cases h2 : 60 < nn
  · have d2 : decide (60 < nn) = true := decide_eq_true h2
    have d2' : decide ((60 : Int) < (nn : Int)) = true := decide_eq_true (by omega)
    go_enter Tryz.func5, Tryz.ntmps5
    go_wp2_with fail
    go_ret
    exact ⟨rfl, Below.refl _ _⟩
  have d2 : decide (60 < nn) = false := decide_eq_false h2
  have d2' : decide ((60 : Int) < (nn : Int)) = false := decide_eq_false (by omega)
  have h2 : nn ≤ 60 := by omega
  have HS := hid h1
  have HN := hid h2
  clear h1
  go_enter Tryz.func5, Tryz.ntmps5
  go_wp2_with fail
  refine (lconfig_any s 1 w0).mono ?_
  rintro e w1 ⟨rfl, hc1⟩
  have HC1 := hid hc1
  clear hc1 d1 d1' d2 d2'
  cases hvd : vdB (bs s) with
  | false =>
    have HCK := hid (ckP_bad (s := s) (by have := HS.out; omega) hvd)
    have HSB := hid (snew_bad ⟨200, 1, 2, 1, 1, 1, 1, s⟩ w1 (by show s.size ≤ 1000000; have := HS.out; omega) (by rw [HCK.out]; decide))
    rw [HCK.out] at HSB
    clear hvd
    go_wp2_with fail
    refine HSB.out.mono ?_
    rintro e w2 ⟨rfl, hb2⟩
    have HB2 := hid hb2
    clear hb2
    go_wp2_with fail
    go_ret
    exact ⟨rfl, (HC1.out.belowB (Nat.le_refl _) (fun _ _ h => h.elim)).trans (HB2.out.mono HC1.out.size)⟩
  | true =>
    have HCK := hid (ckP_ok (s := s) (by have := HS.out; omega) hvd)
    clear hvd
    go_wp2_with fail
    refine (snew 200 1 2 1 1 1 1 s HCK.out w1).mono ?_
    intro e w2 hsn
    have hb1 : Below w0.heap.size w0 w1 := HC1.out.belowB (Nat.le_refl _) (fun _ _ h => h.elim)
    obtain ⟨sb, p, cb, eb, pb, rvb, rN, cN, x, A, ns, cs, y, rfl, hblk, hcfg, hres, hAn, hrN, hy, hb2, hz2, hsb, hcont⟩ := run_new (c := 0) (m := 0) (n := 1) hsn (room300 HS.out) hb1 rfl (by decide) (by decide) (by decide) (by decide) (by decide) (by decide) (by decide) (by have := HS.out; omega) hb1.size
    have HCONT := hid hcont
    have HBLK := hid hblk
    have HCFG := hid hcfg
    clear hsn hb1 hcont hy hAn hrN hres hblk hcfg hb2 hz2 hsb
    go_wp2_with fail
    refine (rnew_any sb 1 cs ⟨200, 1, 2, 1, 1, 1, 1, s⟩ 0 w2 HBLK.out HCFG.out ⟨by decide, by show (0 : Int) < 2; decide⟩ rfl (by decide)).mono ?_
    rintro e w3 ⟨g, lb, rfl, hg, hlb, hc3, hl1, hl2⟩
    obtain ⟨hM, hK, hG⟩ := HCONT.out w3 g lb hg hlb hc3 hl1 hl2
    obtain ⟨σ, hσ⟩ : ∃ σ, σ = RS.new g lb 1 ((0 : Nat) : Int) sb p cb cs cN eb rN 1 pb rvb x A ns := ⟨_, rfl⟩
    rw [← hσ] at hM hK hG
    have M3 := hid hM
    have KK := hid hK
    have GG := hid hG
    have f2 : σ.g = g := by rw [hσ]; rfl
    have F4 := hid (show σ.s.lg = [] ∧ σ.sl = [none] ∧ ∀ i, lk σ.s.vs i = 0 from by
      refine ⟨by rw [hσ]; rfl, by rw [hσ]; rfl, fun i => ?_⟩
      rw [hσ]
      exact lk_rep _ _)
    subst f2
    clear hM hK hG hσ hg hlb hc3 hl1 hl2 HCONT HCFG HBLK HCK HC1
    go_wp2_with fail
    refine (fin_acq M3.out KK.out GG.out.1 (by rw [F4.out.1]; decide)).mono ?_
    rintro e w4 ⟨σ1, bs1, x1, v1, phs1, rfl, hM4, hS4, hK4, hG4, hE4, hl4⟩
    have hPI : x1.er = 0 ∧ ∃ sn, PcI w0 y s σ.g 0 w4 σ1 bs1 sn x1 := by
      rcases hE4 with ⟨_, _, _, ⟨hz, _⟩ | ⟨_, hz, _⟩⟩ | ⟨_, k, sn, i, r, hfr, hi, hr, _, _, hix, hcu, hx, hsl, hss⟩
      · exact absurd (F4.out.2.2 0) hz
      · rw [F4.out.2.1] at hz
        exact absurd hz (by decide)
      · rw [F4.out.2.1] at hfr hsl
        have hk0 : k = 0 := by
          have : free1 (([none] : List (Option Snp)).map sptr) 0 = 0 := by decide
          rw [this] at hfr
          omega
        subst hk0
        have hi0 : i = 0 := by rw [F4.out.2.2 1] at hi; omega
        subst hi0
        exact ⟨by rw [hx]; rfl, sn, hM4.drop1c, hK4, hG4, hS4.g, hsl, hix, hcu, Nat.zero_le _, by have := hl4; rw [F4.out.1] at this; simp at this; omega⟩
    obtain ⟨he1, sn, hPI⟩ := hPI
    have g1 : (x1.er != 0) = false := by rw [he1]; rfl
    obtain ⟨gg, hgg⟩ : ∃ z, z = σ.g := ⟨_, rfl⟩
    rw [← hgg] at hPI ⊢
    have HP := hid (show ∃ σ bs sn x, PcI w0 y s gg 0 w4 σ bs sn x from ⟨_, _, _, _, hPI⟩)
    clear hM4 hS4 hK4 hG4 hE4 hl4 hPI he1 hgg M3 KK GG F4
    simp only [RsV.v]
    go_wp2_with fail
    clear g1
    go_loopw [11, 12] (fun gv i W => ∃ (k : Nat) (gs : ByteArray) (q : Nat), k ≤ nn ∧ i = .int .i64 (k : Int) ∧ gv = .string gs ∧ gs.data.toList = s.data.toList.take q ∧ gs.size = q ∧ ∃ σ bs sn x, PcI w0 y s gg q W σ bs sn x) (fun _ i _ => nn - (intOf i).toNat)
    case atStart =>
      obtain ⟨σ, bs, sn, x, hi⟩ := HP.out
      exact ⟨0, _, 0, Nat.zero_le _, rfl, rfl, rfl, rfl, σ, bs, sn, x, hi.keep ((Ch.refl _ _).alloc _)⟩
    case round =>
      obtain ⟨k, gs, q, hk, rfl, rfl, hgs, hgz, σ, bs, sn, x, hI⟩ := hrel
      have HI := hid hI
      have HGS := hid hgs
      have HGZ := hid hgz
      clear hI hgs hgz HP
      by_cases hlt : k < nn
      · have d1 : decide (k < nn) = true := decide_eq_true hlt
        have d1' : decide ((k : Int) < (nn : Int)) = true := decide_eq_true (by omega)
        obtain ⟨z, hz⟩ : ∃ z, z = lk zs k := ⟨_, rfl⟩
        obtain ⟨b, off, hab, hbl, hcc⟩ := HE.out.2.2 (by omega)
        subst hab
        have cz : wr.cell? ⟨b, off + k, none⟩ = some (.int .u8 z) := by
          rw [hz]
          exact (below_cell HI.out.M.bel (p := ⟨b, _, none⟩) hbl).trans (hcc k hlt)
        have hzr : 0 ≤ z ∧ z < 256 := by
          have hw := HE.out.2.1 z (by rw [hz]; exact lk_memP (by rw [HE.out.1]; exact hlt))
          exact wf_u8 hw
        obtain ⟨zn, hzn⟩ : ∃ zn : Nat, z = (zn : Int) := ⟨z.toNat, by omega⟩
        subst hzn
        have wz : IntKind.i64.wrap (zn : Int) = (zn : Int) := by simp [IntKind.wrap, IntKind.signed, IntKind.bits]; omega
        have HZ := hid hz
        have HZR := hid hzr
        clear hz hcc hzr
        go_wp2_with fail
        refine (pc_next (b := zn) HI.out HS.out).mono ?_
        rintro e w5 ⟨v, x2, σ2, bs2, s2, rfl, he, htx, hat, hI2⟩
        have HI2 := hid hI2
        have HTX := hid htx
        have HAT := hid hat
        have g1 : (x2.er != 0) = false := by rw [he]; rfl
        clear he htx hat hI2
        simp only [RsV.v]
        go_wp2_with fail
        refine at_world fun W6 hW6 => ?_
        obtain ⟨tb, htb⟩ : ∃ t, t = w5.heap.size := ⟨_, rfl⟩
        have HI6 := hid (show PcI w0 y s gg (q + min zn (s.size - q)) W6 σ2 bs2 s2 x2 from by rw [hW6]; exact HI2.out.keep ((Ch.refl _ _).alloc _))
        have T6 := hid (show Blk W6 tb 41 x2.arr from by rw [hW6, htb]; exact Blk.new w5 _ _)
        rw [← htb]
        clear hW6 htb HI2
        have t0 : W6.cell? ⟨tb, 0, none⟩ = some (.int .i64 x2.er) := T6.out.cell 0
        have t3 : W6.cell? ⟨tb, 3, none⟩ = some (.int .i64 x2.at') := T6.out.cell 3
        have t5 : W6.cell? ⟨tb, 5, none⟩ = some (.string x2.s) := T6.out.cell 5
        have cz6 : W6.cell? ⟨b, off + k, none⟩ = some (.int .u8 (zn : Int)) := (below_cell HI6.out.M.bel (p := ⟨b, _, none⟩) hbl).trans ((below_cell HI.out.M.bel (p := ⟨b, _, none⟩) hbl).symm.trans cz)
        have hsz : x2.s.size = min zn (s.size - q) := by
          have e := congrArg List.length HTX.out
          rw [dsize, List.length_take, List.length_drop, dsize] at e
          exact e
        have hq := HI.out.le
        have g2 : decide (x2.s.size > zn) = false := decide_eq_false (by omega)
        have g2' : decide ((x2.s.size : Int) > (zn : Int)) = false := decide_eq_false (by omega)
        have g4 : (x2.at' != (gs.size : Int) + (x2.s.size : Int)) = false := by rw [HAT.out, bne_eq_false_iff_eq, HGZ.out, hsz]; push_cast; rfl
        have HSZ := hid hsz
        have w4 : IntKind.i64.wrap ((gs.size : Int) + (x2.s.size : Int)) = (gs.size : Int) + (x2.s.size : Int) := by have := HGZ.out; have := HS.out; simp [IntKind.wrap, IntKind.signed, IntKind.bits]; omega
        clear hsz hq cz
        refine Mix.wp_region_mix (fun _ => True) (fun i => ([0, 0, 0, 0, 0, 0, 0, 0, 0, 0, 0, 0, 0, 0, 0, 0, 0, 0, 0, 0, 0, 0, 0, 0, 0, 0, 0, 0, 0] : List Nat).getD i 0) [0, 1, 2, 3, 4, 5, 6, 7, 8, 9, 10, 11, 12, 13, 14, 15, 16, 17, 18, 19, 20, 21, 22, 23, 24, 25, 26, 27, 28] (by kernel_rfl) (by kernel_rfl) ?_
        repeat (first | (refine Mix.mix_q (by simp only [List.getElem?_toArray, List.getElem?_cons_zero, List.getElem?_cons_succ]; exact rfl) rfl ?_; go_big_quiet_step (fail); refine wpQuiet_nil ?_) | (refine Mix.mix_p (by simp only [List.getElem?_toArray, List.getElem?_cons_zero, List.getElem?_cons_succ]; exact rfl) rfl rfl ?_; go_big_quiet_step (fail); refine wpQuiet_nil ?_) | (refine Mix.mix_s (by simp only [List.getElem?_toArray, List.getElem?_cons_zero, List.getElem?_cons_succ]; exact rfl) rfl rfl ?_; go_big_quiet_step (fail); refine wpQuiet_nil ?_))
        intro m19
        have HZS := hid (show (gs ++ x2.s).size = q + min zn (s.size - q) from by rw [ByteArray.size_append, HGZ.out, HSZ.out])
        have HGS2 := hid (show (gs ++ x2.s).data.toList = s.data.toList.take (q + min zn (s.size - q)) from by rw [cat_data, HGS.out, HTX.out, take_min, dsize])
        go_wp2_with fail
        case isTrue =>
          exfalso
          have q1 := HZS.out
          have q2 := HS.out
          have q3 := HI6.out.le
          rw [ByteArray.size_append] at q1
          omega
        refine ⟨⟨k + 1, gs ++ x2.s, _, hlt, by go_num, rfl, HGS2.out, HZS.out, _, _, _, _, HI6.out.keep ((Ch.refl _ _).drewN _)⟩, ?_⟩
        simp [intOf]; omega
      · obtain rfl : k = nn := by omega
        have d1 : decide (k < k) = false := decide_eq_false (by omega)
        have d1' : decide ((k : Int) < (k : Int)) = false := decide_eq_false (by omega)
        have hle := HI.out.le
        have e1 : decide (gs.size > s.size) = false := decide_eq_false (by rw [HGZ.out]; omega)
        have e1' : decide ((gs.size : Int) > (s.size : Int)) = false := decide_eq_false (by rw [HGZ.out]; omega)
        have hex : gs = s.extract 0 gs.size := ba_ext (by rw [HGS.out, ByteArray.data_extract, Array.toList_extract, HGZ.out]; simp)
        have e3 : (gs.toList == (s.extract 0 gs.size).toList) = true := by rw [← hex]; exact beq_self_eq_true _
        have e2 : decide (gs.size ≤ s.size) = true := decide_eq_true (by rw [HGZ.out]; omega)
        have e2' : decide ((gs.size : Int) ≤ (s.size : Int)) = true := decide_eq_true (by rw [HGZ.out]; omega)
        have hle2 : gs.size ≤ s.size := by rw [HGZ.out]; omega
        have HLE := hid hle
        clear hex hle
        go_wp2_with fail
        have hpc := pc_next (b := 300) HI.out HS.out
        rw [show ((300 : Nat) : Int) = 300 from rfl] at hpc
        refine hpc.mono ?_
        clear hpc
        rintro e w5 ⟨v, x2, σ2, bs2, s2, rfl, he, htx, hat, hI2⟩
        have hq : q + min 300 (s.size - q) = s.size := by have := HLE.out; have := HS.out; omega
        rw [hq] at hI2
        have HI2 := hid hI2
        have HXE := hid he
        have hall : gs ++ x2.s = s := ba_ext (by rw [cat_data, HGS.out, htx, take_min, dsize, hq]; exact List.take_of_length_le (by rw [dsize]; exact Nat.le_refl _))
        have HALL := hid hall
        clear he htx hat hI2 hq hall e1 e1' e2 e2' e3
        simp only [RsV.v]
        go_wp2_with fail
        refine calls_world fun W6 hW6 => ?_
        obtain ⟨tb, htb⟩ : ∃ t, t = w5.heap.size := ⟨_, rfl⟩
        have HI6 := hid (show PcI w0 y s gg s.size W6 σ2 bs2 s2 x2 from by rw [hW6]; exact HI2.out.keep ((Ch.refl _ _).alloc _))
        have T6 := hid (show Blk W6 tb 41 x2.arr from by rw [hW6, htb]; exact Blk.new w5 _ _)
        rw [← htb]
        clear hW6 htb HI2
        have hcr := rcursor_m (k := 0) HI6.out.M HI6.out.K (by decide) (by decide) (s := s2) (by rw [HI6.out.sl]; rfl)
        rw [HI6.out.hg, HI6.out.cu, show ((0 : Nat) : Int) = 0 from rfl] at hcr
        refine hcr.mono ?_
        clear hcr
        rintro e w' ⟨rfl, rfl⟩
        have t0 : W6.cell? ⟨tb, 0, none⟩ = some (.int .i64 x2.er) := T6.out.cell 0
        have t5 : W6.cell? ⟨tb, 5, none⟩ = some (.string x2.s) := T6.out.cell 5
        rw [HXE.out] at t0
        have g5 : ((gs ++ x2.s).toList == s.toList) = true := by rw [HALL.out]; exact beq_self_eq_true _
        have g6 : ((s.size : Int) == (s.size : Int)) = true := beq_self_eq_true _
        go_wp2_with fail
        case isTrue =>
          exfalso
          have q1 := congrArg ByteArray.size HALL.out
          have q2 := HS.out
          rw [ByteArray.size_append] at q1
          omega
        go_ret
        exact ⟨rfl, HI6.out.M.bel⟩
end Go.Proofs.YtjcdknhejcbpiaaGreat
