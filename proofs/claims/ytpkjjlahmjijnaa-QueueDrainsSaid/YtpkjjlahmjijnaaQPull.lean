/- The queue: a whole pull of a run. -/
import Derived.Test.YtpkjjlahmjijnaaQRunC
namespace Go.Proofs.Ytpkjjlahmjijnaa
open Go.RowKit
set_option linter.unusedVariables false
set_option linter.unusedSimpArgs false
set_option linter.unusedSectionVars false

section
variable {p cb qb X n M : Nat} {lv vp vv vs vo vr vl : Value} {x : Xq} {gp : List (Nat × Pu)} {gq : Option (Nat × Pl)} {w w1 : World}

/-- A pull of a run was begun: its first phase. -/
theorem RunQ.pullBegan19 (h : RunQ w.heap.size p cb qb X n M lv vp vv vs vo vr vl x gp gq w w1) (hn : x.pull = none) {t : Int} (ht : 0 ≤ t ∧ t < 16) {w' : World} {e : Ending} (hb : PlBegun w.heap.size p cb qb lv x.s (lawQ n) ⟨t, qH x.s (lawQ n), 0, 19, 0, false⟩ w1 e w') :
    ∃ g q, e = .returned (.tuple #[.pointer (some ⟨g, 0, none⟩), .int .i64 0]) ∧ q.ph = 19 ∧ RunQ w.heap.size p cb qb X n M lv vp vv vs vo vr vl { x with pull := some q } gp (some (g, q)) w w' := by
  obtain ⟨g, rfl, hQ, hq, c, hg⟩ := hb
  have hH : qH x.s (lawQ n) = x.pl.length := h.inv.hH
  rw [hH] at hq
  refine ⟨g, ⟨t, x.pl.length, 0, 19, 0, false⟩, rfl, rfl, ?_, h.ps, inv_pull h.inv hn t ht, h.lg, h.pm, h.rm, h.sm, h.om, h.hM, rfl⟩
  exact h.mem.upd2 (i := 8) (j := 4) (pullR qb (some (g, ⟨t, x.pl.length, 0, 19, 0, false⟩))) (queueR w.heap.size p cb qb lv x.s (lawQ n) (.pointer (some ⟨g, 0, none⟩))) rfl rfl (by decide) c (fun k _ e => .inr (.inr e)) hq hQ (fun k hk => .inr (by rw [show k = g from hk]; exact hg)) (fun k hk => hk)

/-- A pull in progress has made j steps. -/
def PullIn (p cb qb X n g : Nat) (vp vv vs vo vr vl : Value) (x0 : Xq) (gp : List (Nat × Pu)) (w0 : World) (j : Nat) (w : World) : Prop :=
  ∃ (lv : Value) (q : Pl) (x : Xq), q.ph = 19 + (j : Int) ∧ x.pull = some q ∧ QInv n x ∧ x.ps = x0.ps ∧ x.st = x0.st ∧ x.ot = x0.ot ∧ x.rs = x0.rs ∧ x.pl = x0.pl ∧ x.s.lg.length = x0.s.lg.length + j ∧
    Mem w0.heap.size w0 (runL w0.heap.size p cb qb X n lv vp vv vs vo vr vl gp.length (gp.map Prod.fst) (gp.map fun y => y.2.v) x.s x0.st x0.ot x0.rs x0.pl (some (g, q)) gp) w

/-- What a whole pull leaves: the row of what was pulled is as it was. -/
def PullEnd (p cb qb X n : Nat) (vp vv vs vo vr vl : Value) (x0 : Xq) (gp : List (Nat × Pu)) (w0 : World) (e : Ending) (w : World) : Prop :=
  ∃ (lv : Value) (g : Nat) (q : Pl) (x : Xq), q.fin = true ∧ x.pull = none ∧ QInv n x ∧ x.ps = x0.ps ∧ x.st = x0.st ∧ x.ot = x0.ot ∧ x.rs = x0.rs ∧ x0.s.lg.length ≤ x.s.lg.length ∧ x.s.lg.length ≤ x0.s.lg.length + 3 ∧
    Mem w0.heap.size w0 (runL w0.heap.size p cb qb X n lv vp vv vs vo vr vl gp.length (gp.map Prod.fst) (gp.map fun y => y.2.v) x.s x0.st x0.ot x0.rs x0.pl (some (g, q)) gp) w ∧
    ((e = .returned (.tuple #[.int .u64 0, .int .i64 17]) ∧ x.pl = x0.pl ∧ lk x.s.vs (2 + x.pl.length % n) = 0) ∨ (∃ v, e = .returned (.tuple #[.int .u64 v, .int .i64 0]) ∧ x.pl = x0.pl ++ [v]))

set_option maxRecDepth 100000 in
set_option maxHeartbeats 2000000 in
theorem pull_any (h : RunQ w.heap.size p cb qb X n M lv vp vv vs vo vr vl x gp gq w w1) (hn : x.pull = none) :
    Calls Try.prog 22 #[.pointer (some ⟨X, 0, none⟩)] w1 (PullEnd p cb qb X n vp vv vs vo vr vl x gp w) := by
  have hrest : Rests w1 qb (pullV gq) := by
    rcases h.ways with ⟨_, _, hr⟩ | ⟨g, q, _, _, hx, _⟩
    · exact hr
    · rw [hn] at hx; cases hx
  have x1 : w1.cell? ⟨X, 1, none⟩ = some (.pointer (some ⟨qb, 0, none⟩)) := (h.mem.each 5 _ rfl).cell 1
  have hlM := h.lg
  have hM := h.hM
  have hrm := h.rm
  have hle := h.inv.le
  have H := hid h
  have HR := hid hrest
  have HN := hid hn
  clear h hrest hn
  go_enter Try.func22, Try.ntmps22
  go_wp2_with fail
  refine (qpull_ok w.heap.size p cb qb lv x.s (lawQ n) (pullV gq) w1 (H.out.mem.each 4 _ rfl) 3 ⟨by decide, by decide⟩ HR.out).mono ?_
  rintro e w2 hb2
  obtain ⟨g, q0, rfl, hq0, h2⟩ := H.out.pullBegan19 HN.out ⟨by decide, by decide⟩ hb2
  have H2 := hid h2
  have HQ0 := hid hq0
  clear hb2 h2 hq0 x1
  go_wp2_with fail
  go_loopw [6] (fun i wr => ∃ j : Nat, j ≤ 2 ∧ i = .int .i64 j ∧ PullIn p cb qb X n g vp vv vs vo vr vl x gp w j wr) (fun i _ => 3 - (intOf i).toNat)
  case atStart => exact ⟨0, by decide, rfl, lv, q0, _, HQ0.out, rfl, H2.out.inv, rfl, rfl, rfl, rfl, rfl, rfl, H2.out.mem⟩
  case round =>
    obtain ⟨j, hj, rfl, lw, q, y, hph, hyp, hinv, eps, est, eot, ers, epl, elg, hm⟩ := hrel
    have SH := inv_plstep hinv hyp (by rw [ers]; omega)
    obtain ⟨b1, b2, b3, b4, b5⟩ := hinv.pull q hyp
    have hat : 0 ≤ q.at' ∧ q.at' < 18446744073709551616 := by
      rw [epl] at b1
      omega
    have hphs : q.ph = 0 ∨ q.ph = 19 ∨ q.ph = 20 ∨ q.ph = 21 := by omega
    have d3 : decide ((j : Int) < 3) = true := decide_eq_true (by omega)
    have hlg : y.s.lg.length < 1000000 := by rw [elg]; omega
    have HM := hid hm
    have HSH := hid SH
    have HAT := hid hat
    have HPS := hid hphs
    have HB4 := hid b4
    have HPH := hid hph
    have HYP := hid hyp
    have E1 := hid eps
    have E2 := hid est
    have E3 := hid eot
    have E4 := hid ers
    have E5 := hid epl
    have E6 := hid elg
    have HLG := hid hlg
    clear hm SH hat hphs b1 b2 b3 b4 b5 hph hyp eps est eot ers epl elg hlg hinv
    go_wp2_with fail
    refine (lstep_any w.heap.size p cb qb g lw y.s (lawQ n) (.pointer (some ⟨g, 0, none⟩)) q wr (HM.out.each 4 _ rfl) (HM.out.each 8 _ rfl) HB4.out HLG.out HM.out.bz HAT.out HPS.out).mono ?_
    rintro e w3 ⟨rfl, lv', hQ3, hq3, c3, f3⟩
    obtain ⟨o, ho⟩ : ∃ o, o = plstep y.s (lawQ n) q := ⟨_, rfl⟩
    rw [← ho] at hQ3 hq3 ⊢
    have m3 := HM.out.pulled hQ3 hq3 c3 f3
    have hfin3 : o.2.fin = decide (o.2.ph = 0) := by rw [ho]; exact HSH.out.fin
    have hlg3 : o.1.lg.length = x.s.lg.length + (j + 1) := by rw [ho, HSH.out.lg, E6.out]; rfl
    have M3 := hid m3
    have HO := hid ho
    have HF3 := hid hfin3
    have HL3 := hid hlg3
    clear hQ3 hq3 c3 f3 ho hlg3 hfin3 m3
    have es : (y.pulled n q).s = o.1 := by rw [HO.out]; unfold Xq.pulled; split <;> rfl
    have est : (y.pulled n q).st = x.st := by rw [← E2.out]; unfold Xq.pulled; split <;> rfl
    have eot : (y.pulled n q).ot = x.ot := by rw [← E3.out]; unfold Xq.pulled; split <;> rfl
    have ers : (y.pulled n q).rs = x.rs := by rw [← E4.out]; unfold Xq.pulled; split <;> rfl
    have eps : (y.pulled n q).ps = x.ps := by rw [← E1.out]; unfold Xq.pulled; split <;> rfl
    have P1 := hid es
    have P2 := hid est
    have P3 := hid eot
    have P4 := hid ers
    have P5 := hid eps
    clear es est eot ers eps
    by_cases hd : o.2.ph = 0
    · have bd : (o.2.ph == 0) = true := by rw [beq_iff_eq]; exact hd
      have HD := hid hd
      have HFIN := hid (show o.2.fin = true by rw [HF3.out, decide_eq_true hd])
      clear hd
      go_wp2_with fail
      refine calls_world fun W4 hW4 => ?_
      have M4 := hid (show _ from hW4 ▸ M3.out)
      clear hW4
      refine (lres_any qb g W4 o.2 (M4.out.each 8 _ rfl)).mono ?_
      rintro e w' ⟨rfl, n4, rfl⟩
      rw [plRes_fin HFIN.out]
      go_wp2_with fail
      go_ret2
      have hpn : (y.pulled n q).pull = none := by
        unfold Xq.pulled
        rw [if_pos (by rw [← HO.out]; exact HD.out)]
      refine ⟨lv', g, o.2, y.pulled n q, HFIN.out, hpn, HSH.out.inv, P5.out, P2.out, P3.out, P4.out, by rw [P1.out, HL3.out]; omega, by rw [P1.out, HL3.out]; omega, by rw [P1.out]; exact M4.out.drewN n4, ?_⟩
      rcases HSH.out.er (by rw [← HO.out]; exact HD.out) with he | ⟨he, hg, hv, hz⟩
      · rw [← HO.out] at he
        refine .inr ⟨o.2.got, by rw [he]; rfl, ?_⟩
        rw [pulled_pl1 (by rw [← HO.out]; exact HD.out) (by rw [← HO.out]; exact he), E5.out, ← HO.out]
      · have hpl : (y.pulled n q).pl = y.pl := pulled_pl0 (.inr (by rw [he]; decide))
        rw [← HO.out] at he hg
        exact .inl ⟨by rw [he, hg]; rfl, by rw [hpl, E5.out], by rw [hpl, hv]; exact hz⟩
    · have bd : (o.2.ph == 0) = false := by rw [beq_eq_false_iff_ne]; exact hd
      have hph' : j + 1 ≤ 2 ∧ o.2.ph = 19 + ((j + 1 : Nat) : Int) := by
        have h1 := HSH.out.ph
        have h2 := HPH.out
        rw [← HO.out] at h1
        omega
      have HPH' := hid hph'
      have hyp' : (y.pulled n q).pull = some o.2 := by
        unfold Xq.pulled
        rw [if_neg (by rw [← HO.out]; exact hd), ← HO.out]
      have hpl' : (y.pulled n q).pl = x.pl := by rw [pulled_pl0 (.inl (by rw [← HO.out]; exact hd)), E5.out]
      have P6 := hid hyp'
      have P7 := hid hpl'
      clear hd hph' hyp' hpl'
      go_wp2_with fail
      go_roundw
      case rel => exact ⟨j + 1, HPH'.out.1, by go_num, lv', o.2, y.pulled n q, HPH'.out.2, P6.out, HSH.out.inv, P5.out, P2.out, P3.out, P4.out, P7.out, by rw [P1.out, HL3.out], by rw [P1.out]; exact M3.out⟩
      case measure => simp [intOf]; omega
end
end Go.Proofs.Ytpkjjlahmjijnaa
