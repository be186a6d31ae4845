/- The feed: a reception of a run. -/
import Derived.Test.YtonjbofdmmnpdaaFeedH
import Derived.Test.YtonjbofdmmnpdaaFeedR
namespace Go.Proofs.Ytonjbofdmmnpdaa
open Go.RowKit
set_option linter.unusedVariables false
set_option linter.unusedSimpArgs false

theorem inv_fin {x : Xs} {s : BS} {f : Fd} {v : Int} {lg : Bool} {tk lo m m' H T a : Nat} {cl : Bool} (h : Inv (Xs.gotV { x with s := s, f := f, R := none, takes := tk, looked := lo, clean := cl } v lg) m H T a) (hP : x.P = none) (hR : x.R = none) (hm : m ≤ m') : Inv (Xs.gotV { x with s := s, f := f } v lg) m' H T a := by
  have h1 := inv_reset h hP rfl x.takes x.looked x.clean
  have e : ({ Xs.gotV { x with s := s, f := f, R := none, takes := tk, looked := lo, clean := cl } v lg with takes := x.takes, looked := x.looked, clean := x.clean } : Xs) = Xs.gotV { x with s := s, f := f } v lg := by
    unfold Xs.gotV
    simp only [hR]
  rw [e] at h1
  exact { h1 with lg := Nat.le_trans h1.lg hm, HT := ⟨h1.HT.1, h1.HT.2.1, Nat.le_trans h1.HT.2.2 hm⟩, pm := Nat.le_trans h1.pm hm, gl := ⟨h1.gl.1, Nat.le_trans h1.gl.2 hm⟩ }

theorem con_sf (x : Xs) (r : Rd) : (x.conR r).s = (x.stR r).s ∧ (x.conR r).f = (x.stR r).f := by
  unfold Xs.conR Xs.endR
  split
  · split <;> exact ⟨rfl, rfl⟩
  · exact ⟨rfl, rfl⟩

/-- What a reception while nothing is pushed shows. -/
def Drain (B p cb fb X : Nat) (vp vi vg vl : Value) (x : Xs) (m : Nat) (xc : Array Value) (w0 : World) (e : Ending) (w' : World) : Prop :=
  ∃ lv' s' f', RunW B p cb fb X lv' vp vi vg vl s' f' xc x.pushed x.items x.got x.lags none none w0 w' ∧ f'.n = x.f.n ∧ (∃ H T : Nat, cHead s' f' = H ∧ cTail s' f' = T ∧ H ≤ T ∧ T ≤ 1000000) ∧
    ((∃ v lg, e = .returned (.tuple #[.int .u64 v, .bool lg, .int .i64 0]) ∧ GotF { x with s := s', f := f' } v lg ∧ (∃ H T a, Inv (Xs.gotV { x with s := s', f := f' } v lg) (m + 4) H T a) ∧ pot s' f' + 1 = pot x.s x.f) ∨
     (∃ v lg, e = .returned (.tuple #[.int .u64 v, .bool lg, .int .i64 17]) ∧ (x.pushed.length = 0 ∨ (0 < x.pushed.length ∧ lastI x.got = lastI x.pushed))))

set_option maxRecDepth 100000 in
set_option maxHeartbeats 2000000 in
theorem recv_run (B p cb fb X : Nat) (lv vp vi vg vl : Value) (x : Xs) (m H T a : Nat) (xc : Array Value) (w0 w : World) (hI : Inv x m H T a) (hm : m ≤ 990) (hP : x.P = none) (hR : x.R = none)
    (hW : RunW B p cb fb X lv vp vi vg vl x.s x.f xc x.pushed x.items x.got x.lags none none w0 w) :
    Calls Try.prog 17 #[.pointer (some ⟨fb, 0, none⟩), .int .u64 (lastI x.got)] w (Drain B p cb fb X vp vi vg vl x m xc w0) := by
  have hrf : x.f.receiving = false := by rw [hI.fpr.2, hR]; rfl
  have hIb := inv_begR hI hR
  have Hrf := hid hrf
  have HW := hid hW
  have HP := hid hP
  have HR := hid hR
  clear hrf hW hP hR
  go_enter Try.func17, Try.ntmps17
  go_wp2_with fail
  refine (frecv_ok B p cb fb lv x.s x.f w HW.out.fm 0 (lastI x.got) ⟨by decide, by decide⟩ Hrf.out).mono ?_
  rintro e w1 ⟨qb, rfl, hf1, hq1, hc1, hqb⟩
  have hR1 := (HW.out.fed hf1 hc1).setR (r := ⟨0, 14, lastI x.got, 0, 0, false, 0⟩) hq1 (Nat.le_trans HW.out.bz hqb)
  clear hf1 hq1 hc1
  have HR1 := hid hR1
  have HIb := hid hIb
  clear hR1 hIb
  go_wp2_with fail
  go_loopw [9, 10, 11] (fun n _ _ wr => ∃ (s : BS) (f : Fd) (r : Rd) (tk lo : Nat) (cl : Bool), n = .int .i64 (tk : Int) ∧ tk ≤ 3 ∧ (∃ a1 H1, Inv ({ x with s := s, f := f, R := some r, takes := tk, looked := lo, clean := cl } : Xs) (m + tk) H1 T a1) ∧ (r.ph = 15 → r.l = cLag s f) ∧ pot s f = pot x.s x.f ∧ f.n = x.f.n ∧
    ∃ lv', RunW B p cb fb X lv' vp vi vg vl s f xc x.pushed x.items x.got x.lags none (some (qb, r)) w0 wr) (fun n _ _ _ => 8 - (intOf n).toNat)
  case atStart => exact ⟨x.s, { x.f with receiving := true }, ⟨0, 14, lastI x.got, 0, 0, false, 0⟩, 0, x.looked, x.clean, by simp, by omega, ⟨a, H, HIb.out⟩, fun h => by simp at h, rfl, rfl, lv, HR1.out⟩
  case round =>
    obtain ⟨s, f, r, tk, lo, cl, rfl, htk, ⟨a1, H1, hIy⟩, hL, hpot, hfn, lv', hRy⟩ := hrel
    clear HIb HR1
    obtain ⟨y, hy⟩ : ∃ y : Xs, y = { x with s := s, f := f, R := some r, takes := tk, looked := lo, clean := cl } := ⟨_, rfl⟩
    rw [← hy] at hIy
    have hyR : y.R = some r := by rw [hy]
    have hyP : y.P = none := by rw [hy]; exact HP.out
    have hys : y.s = s := by rw [hy]
    have hyf : y.f = f := by rw [hy]
    obtain ⟨H2, a2, hI2, htk2, hend⟩ := inv_conR hIy (by omega) hyR
    have hds := drain_step hIy (by omega) hyR hyP (by rw [hys, hyf]; exact hL)
    have hrv := hIy.cons r hyR
    have hlg := hIy.lg
    have hlg2 : s.lg.length < 1000000 := by rw [← hys]; omega
    have hHT2 := hI2.HT
    have hdr := fun (hTH : T = H1) (hl : cLag y.s y.f = 0) => drained hIy hyP hTH hl
    obtain ⟨s1, r1, ho⟩ : ∃ s1 r1, rstep s f r = (s1, r1) := ⟨_, _, rfl⟩
    have ho' : rstep y.s y.f r = (s1, r1) := by rw [hys, hyf]; exact ho
    rw [ho'] at hds
    have Hy := hid hy
    have Hds := hid hds
    have Hend := hid hend
    have HI2 := hid hI2
    have Hdr := hid hdr
    have Ho := hid ho
    have Ho' := hid ho'
    have Hph := hid hrv.ph
    have Ht := hid hrv.t
    have Hys := hid hys
    have Hyf := hid hyf
    have Hpot := hid hpot
    have HRy := hid hRy
    have HtkE : Hid (y.takes = tk) := hid (by rw [hy])
    have HIm := hid hIy
    clear hy hds hend hI2 hdr ho ho' hrv hys hyf hpot hRy hIy hL hyP hlg
    go_wp2_with fail
    refine (rstep_any B p cb fb qb lv' s f r wr HRy.out.fm (HRy.out.rr qb _ rfl).1 ⟨by rw [Ht.out]; decide, by rw [Ht.out]; decide⟩ hlg2 HRy.out.bz Hph.out).mono ?_
    rw [Ho.out]
    rintro e w2 ⟨rfl, lv2, hf2, hq2, hc2, hy2⟩
    have hR2 := HRy.out.received rfl hf2 hq2 hc2
    clear hf2 hq2 hc2 hy2
    have HR2 := hid hR2
    clear hR2
    by_cases hz : r1.ph = 0
    · have hbn : (r1.ph == 0) = true := by rw [beq_iff_eq]; exact hz
      have hHid := hid hz
      clear hz
      go_wp2_with fail
      refine (fres_any fb qb r1 w2 (HR2.out.rr qb _ rfl).1 hHid.out).mono ?_
      rintro e w3 ⟨rfl, n3, rfl⟩
      go_wp2_with fail
      go_ret3
      have hz := hHid.out
      have hx1 : y.stR r = { x with s := s1, f := f.rcv (r1.ph != 0), R := none, takes := tk + 1, looked := if r.ph = 14 then y.ended else y.looked, clean := (y.stR r).clean } := by
        unfold Xs.stR
        rw [Ho'.out]
        simp only [hz, if_true]
        rw [Hy.out]
      have hcs : cHead (y.conR r).s (y.conR r).f = cHead s1 (f.rcv (r1.ph != 0)) ∧ cTail (y.conR r).s (y.conR r).f = cTail s1 (f.rcv (r1.ph != 0)) := by
        rw [(con_sf y r).1, (con_sf y r).2, hx1]
        exact ⟨rfl, rfl⟩
      refine ⟨lv2, s1, f.rcv (r1.ph != 0), (HR2.out.drewN n3).noR, hfn, ⟨H2, T, hcs.1.symm.trans HI2.out.hH, hcs.2.symm.trans HI2.out.hT, hHT2.1, by omega⟩, ?_⟩
      rcases (Hds.out.2 hz) with ⟨he, hp⟩ | ⟨he, hTH, hl⟩
      · have he : r1.err = 0 := he
        refine .inl ⟨r1.value, r1.lagged, by rw [he]; rfl, ?_, ?_, ?_⟩
        · rcases Hend.out (by rw [Ho'.out]; exact hz) with ⟨_, hG⟩ | ⟨hc, _⟩
          · rw [Ho'.out, hx1] at hG
            exact hG
          · rw [Ho'.out] at hc
            have hc : r1.err = 17 := hc
            omega
        · have hC : y.conR r = (y.stR r).gotV r1.value r1.lagged := by
            unfold Xs.conR Xs.endR
            rw [Ho'.out]
            simp only [hz, he, if_true]
          have hI3 := HI2.out
          rw [hC, hx1] at hI3
          exact ⟨H2, T, a2, inv_fin hI3 HP.out HR.out (by omega)⟩
        · rw [← Hpot.out]
          have := hp
          rw [Hys.out, Hyf.out] at this
          exact this
      · have he : r1.err = 17 := he
        refine .inr ⟨r1.value, r1.lagged, by rw [he]; rfl, ?_⟩
        have := Hdr.out hTH hl
        rw [Hy.out] at this
        exact this
    · have hbn : (r1.ph == 0) = false := by rw [beq_eq_false_iff_ne]; exact hz
      have hzH := hid hz
      clear hz
      go_wp2_with fail
      go_roundw
      case rel =>
        have hz := hzH.out
        have hC : y.conR r = { x with s := s1, f := f.rcv (r1.ph != 0), R := some r1, takes := tk + 1, looked := (y.stR r).looked, clean := (y.stR r).clean } := by
          unfold Xs.conR
          rw [Ho'.out]
          simp only [hz, if_false]
          unfold Xs.stR
          rw [Ho'.out]
          simp only [hz, if_false]
          rw [Hy.out]
        have hI3 := HI2.out
        rw [hC] at hI3
        have hd := Hds.out.1 hz
        have htk3 : tk + 1 ≤ 3 := (hI3.cons r1 rfl).tk.1
        refine ⟨s1, f.rcv (r1.ph != 0), r1, tk + 1, _, _, by go_num, htk3, ⟨a2, H2, hI3⟩, ?_, ?_, hfn, lv2, HR2.out⟩
        · intro h15
          have := hd.1 h15
          rw [Hyf.out] at this
          exact this
        · rw [← Hpot.out]
          have := hd.2
          rw [Hys.out, Hyf.out] at this
          exact this
      case measure => simp [intOf]; omega
end Go.Proofs.Ytonjbofdmmnpdaa
