/- EpochExamples: advances. -/
import Derived.Test.YtokcodeeaneeaaaEeC
namespace Go.Proofs.Ytokcodeeaneeaaa
open Go.RowKit
set_option linter.unusedVariables false
set_option linter.unusedSimpArgs false
set_option linter.unusedSectionVars false

/-- The steps of a scan. -/
def sns (s : BS) : Nat → BS × Sn
  | 0 => (s, ⟨2, 0, false, 34⟩)
  | c + 1 => snstep (sns s c).1 (edf 2) (sns s c).2
set_option maxRecDepth 100000 in
set_option maxHeartbeats 2000000 in
theorem ExG.advances {B p cb qb pb lb : Nat} {s : BS} {gp : List Gp} {gs : Gs} {o0 o1 o2 : List Int} {w0 w : World} (h : ExG B p cb qb pb lb s gp gs o0 o1 o2 w0 w) (hl : s.lg.length < 800) (hr : gsRest gs)
    (hst : ∀ c, c < 3 → (sns s c).2.t = 2 ∧ (((sns s c).2.ph = 34 ∧ (sns s c).2.at' < 2) ∨ (sns s c).2.ph = 35)) (k1 : ((sns s 1).2.ph == 0) = false) (k2 : ((sns s 2).2.ph == 0) = false) (k3 : ((sns s 3).2.ph == 0) = true) (ha : (sns s 3).2.adv = true) :
    Calls Try.prog 44 #[.pointer (some ⟨qb, 0, none⟩), .int .i64 3] w fun e w' => e = .returned (.bool true) ∧ ∃ g, ExG B p cb qb pb lb (sns s 3).1 gp (some (g, (sns s 3).2)) o0 o1 o2 w0 w' := by
  have H := hid h
  have HR := hid hr
  have K3 := hid k3
  have HAD := hid ha
  clear h hr ha
  go_enter Try.func44, Try.ntmps44
  go_wp2_with fail
  refine (H.out.scanB 2 (by decide) HR.out).mono ?_
  rintro e w1 ⟨g, rfl, h1⟩
  have H1 := hid (show ExG B p cb qb pb lb (sns s 0).1 gp (some (g, (sns s 0).2)) o0 o1 o2 w0 w1 from h1)
  clear h1
  go_wp2_with fail
  go_loopw [7] (fun i wr => ∃ c : Nat, c ≤ 3 ∧ i = .int .i64 c ∧ ExG B p cb qb pb lb (sns s c).1 gp (some (g, (sns s c).2)) o0 o1 o2 w0 wr ∧ (sns s c).1.lg.length = s.lg.length + c) (fun i _ => 3 - (intOf i).toNat)
  case atStart => exact ⟨0, by decide, rfl, H1.out, rfl⟩
  case round =>
    obtain ⟨c, hc, rfl, hA, hlc⟩ := hrel
    have HA := hid hA
    have HLC := hid hlc
    clear hA
    rcases (show c = 0 ∨ c = 1 ∨ c = 2 ∨ c = 3 by omega) with rfl | rfl | rfl | rfl
    · have hq := hst 0 (by decide)
      go_wp2_with fail
      refine (HA.out.scanS (by omega) (by rw [hq.1]; decide) hq.2).mono ?_
      rintro e w2 ⟨rfl, h2'⟩
      have H2 := hid h2'
      have HL2 := hid (show (sns s 1).1.lg.length = s.lg.length + 1 by rw [show (sns s 1).1 = (snstep (sns s 0).1 (edf 2) (sns s 0).2).1 from rfl, snstep_ll (n := 2) (hq.2.imp (fun e => e.1) id), HLC.out])
      clear h2' hq
      rw [show ((snstep (sns s 0).1 (edf 2) (sns s 0).2).2.ph == 0) = false from k1]
      go_wp2_with fail
      go_roundw
      case rel => exact ⟨1, by decide, by rfl, H2.out, HL2.out⟩
      case measure => simp [intOf]
    · have hq := hst 1 (by decide)
      go_wp2_with fail
      refine (HA.out.scanS (by omega) (by rw [hq.1]; decide) hq.2).mono ?_
      rintro e w2 ⟨rfl, h2'⟩
      have H2 := hid h2'
      have HL2 := hid (show (sns s 2).1.lg.length = s.lg.length + 2 by rw [show (sns s 2).1 = (snstep (sns s 1).1 (edf 2) (sns s 1).2).1 from rfl, snstep_ll (n := 2) (hq.2.imp (fun e => e.1) id), HLC.out])
      clear h2' hq
      rw [show ((snstep (sns s 1).1 (edf 2) (sns s 1).2).2.ph == 0) = false from k2]
      go_wp2_with fail
      go_roundw
      case rel => exact ⟨2, by decide, by rfl, H2.out, HL2.out⟩
      case measure => simp [intOf]
    · have hq := hst 2 (by decide)
      go_wp2_with fail
      refine (HA.out.scanS (by omega) (by rw [hq.1]; decide) hq.2).mono ?_
      rintro e w2 ⟨rfl, h2'⟩
      have H2 := hid h2'
      have HL2 := hid (show (sns s 3).1.lg.length = s.lg.length + 3 by rw [show (sns s 3).1 = (snstep (sns s 2).1 (edf 2) (sns s 2).2).1 from rfl, snstep_ll (n := 2) (hq.2.imp (fun e => e.1) id), HLC.out])
      clear h2' hq
      rw [show ((snstep (sns s 2).1 (edf 2) (sns s 2).2).2.ph == 0) = true from k3]
      go_wp2_with fail
      go_roundw
      case rel => exact ⟨3, by decide, by rfl, H2.out, HL2.out⟩
      case measure => simp [intOf]
    · go_wp2_with fail
      refine (HA.out.result (by have := K3.out; rwa [beq_iff_eq] at this)).mono ?_
      rintro e w2 ⟨rfl, rfl⟩
      rw [HAD.out]
      go_wp2_with fail
      go_ret
      exact ⟨rfl, g, HA.out⟩
end Go.Proofs.Ytokcodeeaneeaaa
