/- The feed: whole pushes and receptions; the chapter's examples. -/
import Derived.Test.YtonjbofdmmnpdaaFeedE
import Derived.Test.YtonjbofdmmnpdaaFeedD
namespace Go.Proofs.Ytonjbofdmmnpdaa
open Go.RowKit
set_option linter.unusedVariables false
set_option linter.unusedSimpArgs false

/-- After k steps of a push. -/
def stepsP (s : BS) (F : Fd) (q : Pd) : Nat → BS × Fd × Pd
  | 0 => (s, F, q)
  | k + 1 => ((pstep (stepsP s F q k).1 (stepsP s F q k).2.1 (stepsP s F q k).2.2).1, (stepsP s F q k).2.1.psh ((pstep (stepsP s F q k).1 (stepsP s F q k).2.1 (stepsP s F q k).2.2).2.1 != 0), (stepsP s F q k).2.2.next (pstep (stepsP s F q k).1 (stepsP s F q k).2.1 (stepsP s F q k).2.2))
theorem stepsP_tp (s : BS) (F : Fd) (q : Pd) : ∀ k, (stepsP s F q k).2.2.t = q.t ∧ (stepsP s F q k).2.2.p = q.p
  | 0 => ⟨rfl, rfl⟩
  | k + 1 => stepsP_tp s F q k
/-- After k steps of a reception. -/
def stepsR (s : BS) (F : Fd) (r : Rd) : Nat → BS × Fd × Rd
  | 0 => (s, F, r)
  | k + 1 => ((rstep (stepsR s F r k).1 (stepsR s F r k).2.1 (stepsR s F r k).2.2).1, (stepsR s F r k).2.1.rcv ((rstep (stepsR s F r k).1 (stepsR s F r k).2.1 (stepsR s F r k).2.2).2.ph != 0), (rstep (stepsR s F r k).1 (stepsR s F r k).2.1 (stepsR s F r k).2.2).2)
theorem rstep_t (s : BS) (F : Fd) (r : Rd) : (rstep s F r).2.t = r.t := by
  unfold rstep
  repeat' split
  all_goals rfl
theorem stepsR_t (s : BS) (F : Fd) (r : Rd) : ∀ k, (stepsR s F r k).2.2.t = r.t
  | 0 => rfl
  | k + 1 => (rstep_t _ _ _).trans (stepsR_t s F r k)

theorem fp_below {B p cb fb b : Nat} {lv : Value} {s : BS} {F : Fd} {w w' : World} (h : FeedM B w p cb fb lv s F) (hb : B ≤ b) (hB : B ≤ w.heap.size) (c : Ch (fun k => FP p cb lv k ∨ k = fb ∨ k = b) w w') : Below B w w' :=
  c.below hB fun k e => by
    rcases e with (e | e | e) | e | e
    · rw [e]; exact h.b.bp
    · rw [e]; exact h.b.bc
    · exact (h.b.hl.lt k e).1
    · rw [e]; exact h.bf
    · rw [e]; exact hb

/-- What a whole operation leaves. -/
def KRes (B p cb fb : Nat) (v : Value) (s : BS) (F : Fd) (w : World) (e : Ending) (w' : World) : Prop := e = .returned v ∧ ∃ lv', FeedM B w' p cb fb lv' s F ∧ Below B w w'

set_option maxHeartbeats 1000000 in
theorem kpush_any (B p cb fb : Nat) (lv : Value) (s : BS) (F : Fd) (v : Int) (w : World) (h : FeedM B w p cb fb lv s F) (hB : B ≤ w.heap.size) (hv : F.last < v ∧ 0 ≤ v ∧ v < 18446744073709551616) (hp : F.pushing = false) (N : Nat) (hN : 1 ≤ N ∧ N ≤ 6)
    (hst : ∀ j, j < N → (stepsP s { F with last := v, pushing := true } ⟨1, 26, v, 0⟩ j).1.lg.length < 1000000 ∧ ((stepsP s { F with last := v, pushing := true } ⟨1, 26, v, 0⟩ j).2.2.ph = 26 ∨ (stepsP s { F with last := v, pushing := true } ⟨1, 26, v, 0⟩ j).2.2.ph = 27 ∨ (stepsP s { F with last := v, pushing := true } ⟨1, 26, v, 0⟩ j).2.2.ph = 28 ∨ (stepsP s { F with last := v, pushing := true } ⟨1, 26, v, 0⟩ j).2.2.ph = 29 ∨ (stepsP s { F with last := v, pushing := true } ⟨1, 26, v, 0⟩ j).2.2.ph = 30 ∨ (stepsP s { F with last := v, pushing := true } ⟨1, 26, v, 0⟩ j).2.2.ph = 31 ∨ (stepsP s { F with last := v, pushing := true } ⟨1, 26, v, 0⟩ j).2.2.ph = 32))
    (hend : (stepsP s { F with last := v, pushing := true } ⟨1, 26, v, 0⟩ N).2.2.ph = 0) :
    Calls Try.prog 52 #[.pointer (some ⟨fb, 0, none⟩), .int .u64 v] w (KRes B p cb fb (.int .i64 N) (stepsP s { F with last := v, pushing := true } ⟨1, 26, v, 0⟩ N).1 (stepsP s { F with last := v, pushing := true } ⟨1, 26, v, 0⟩ N).2.1 w) := by
  obtain ⟨z, hz⟩ : ∃ z : Nat → BS × Fd × Pd, z = stepsP s { F with last := v, pushing := true } ⟨1, 26, v, 0⟩ := ⟨_, rfl⟩
  have hzs : ∀ k, z (k + 1) = ((pstep (z k).1 (z k).2.1 (z k).2.2).1, (z k).2.1.psh ((pstep (z k).1 (z k).2.1 (z k).2.2).2.1 != 0), (z k).2.2.next (pstep (z k).1 (z k).2.1 (z k).2.2)) := fun k => by rw [hz]; rfl
  have hz0 : z 0 = (s, { F with last := v, pushing := true }, ⟨1, 26, v, 0⟩) := by rw [hz]; rfl
  have hzt : ∀ k, (z k).2.2.t = 1 ∧ (z k).2.2.p = v := fun k => by rw [hz]; exact stepsP_tp _ _ _ k
  rw [← hz] at hst hend ⊢
  have HZ := hid hzs
  have HT := hid hzt
  have HS := hid hst
  have HE := hid hend
  have H0 := hid hz0
  have HP := hid hp
  clear hz hzs hzt hst hend hz0 hp
  go_enter Try.func52, Try.ntmps52
  go_wp2_with fail
  refine (fpush_ok B p cb fb lv s F w h 1 v ⟨by decide, by decide⟩ hv.1 HP.out).mono ?_
  rintro e w1 ⟨qb, rfl, hf1, hq1, hc1, hqb⟩
  have hb1 : Below B w w1 := hc1.below hB (fun k e => by rw [e]; exact h.bf)
  have hqB : B ≤ qb := Nat.le_trans hB hqb
  go_wp2_with fail
  go_loopw [7, 8, 9] (fun n _ _ wr => ∃ j : Nat, j < N ∧ n = .int .i64 ((j : Int) + 1) ∧ (∃ lv', FeedM B wr p cb fb lv' (z j).1 (z j).2.1) ∧ Blk wr qb 106 (pdCells fb (z j).2.2) ∧ Below B w wr) (fun n _ _ _ => 8 - (intOf n).toNat)
  case atStart => exact ⟨0, by omega, by simp, ⟨lv, by rw [H0.out]; exact hf1⟩, by rw [H0.out]; exact hq1, hb1⟩
  case round =>
    obtain ⟨j, hj, rfl, ⟨lv', hf⟩, hq, hbel⟩ := hrel
    have hs := HS.out j hj
    have hlg := hs.1
    have Hph := hid hs.2
    have htp := HT.out j
    have HTp := hid htp
    clear hs htp
    go_wp2_with fail
    refine (pstep_any B p cb fb qb lv' _ _ _ wr hf hq ⟨by rw [HTp.out.1]; decide, by rw [HTp.out.1]; decide⟩ hlg (Nat.le_trans hB hbel.size) ⟨by rw [HTp.out.2]; exact hv.2.1, by rw [HTp.out.2]; exact hv.2.2⟩ Hph.out).mono ?_
    rintro e w2 ⟨rfl, lv2, hf2, hq2, hc2, hy2⟩
    have hz1 := HZ.out j
    have hb2 : Below B w w2 := hbel.trans (fp_below hf hqB (Nat.le_trans hB hbel.size) hc2)
    have e1 : (pstep (z j).1 (z j).2.1 (z j).2.2).1 = (z (j + 1)).1 := by rw [hz1]
    have e2 : (z j).2.1.psh ((pstep (z j).1 (z j).2.1 (z j).2.2).2.1 != 0) = (z (j + 1)).2.1 := by rw [hz1]
    have e3 : (z j).2.2.next (pstep (z j).1 (z j).2.1 (z j).2.2) = (z (j + 1)).2.2 := by rw [hz1]
    have e4 : (pstep (z j).1 (z j).2.1 (z j).2.2).2.1 = (z (j + 1)).2.2.ph := by rw [hz1]; rfl
    rw [e1, e2] at hf2
    rw [e3] at hq2
    rw [e4]
    have Hf2 := hid hf2
    have Hq2 := hid hq2
    clear e1 e2 e3 e4 hz1 hf2 hq2 hf hq hc2
    by_cases hl : j + 1 = N
    · have hd : ((z (j + 1)).2.2.ph == 0) = true := by rw [beq_iff_eq, hl]; exact HE.out
      subst hl
      go_wp2_with fail
      go_ret
      exact ⟨by first | rfl | (exact congrArg (fun x => Ending.returned (.int .i64 x)) (by push_cast; rfl)), lv2, Hf2.out, hb2⟩
    · have hd : ((z (j + 1)).2.2.ph == 0) = false := by
        rw [beq_eq_false_iff_ne]
        have := (HS.out (j + 1) (by omega)).2
        omega
      go_wp2_with fail
      go_roundw
      case rel => exact ⟨j + 1, by omega, by go_num, ⟨lv2, Hf2.out⟩, Hq2.out, hb2⟩
      case measure => simp [intOf]; omega

set_option maxHeartbeats 1000000 in
theorem krecv_any (B p cb fb : Nat) (lv : Value) (s : BS) (F : Fd) (v : Int) (w : World) (h : FeedM B w p cb fb lv s F) (hB : B ≤ w.heap.size) (hp : F.receiving = false) (N : Nat) (hN : 1 ≤ N ∧ N ≤ 4)
    (hst : ∀ j, j < N → (stepsR s { F with receiving := true } ⟨0, 14, v, 0, 0, false, 0⟩ j).1.lg.length < 1000000 ∧ ((stepsR s { F with receiving := true } ⟨0, 14, v, 0, 0, false, 0⟩ j).2.2.ph = 14 ∨ (stepsR s { F with receiving := true } ⟨0, 14, v, 0, 0, false, 0⟩ j).2.2.ph = 15 ∨ (stepsR s { F with receiving := true } ⟨0, 14, v, 0, 0, false, 0⟩ j).2.2.ph = 16 ∨ (stepsR s { F with receiving := true } ⟨0, 14, v, 0, 0, false, 0⟩ j).2.2.ph = 17 ∨ (stepsR s { F with receiving := true } ⟨0, 14, v, 0, 0, false, 0⟩ j).2.2.ph = 18))
    (r : Rd) (hr : (stepsR s { F with receiving := true } ⟨0, 14, v, 0, 0, false, 0⟩ N).2.2 = r) (hend : r.ph = 0) :
    Calls Try.prog 17 #[.pointer (some ⟨fb, 0, none⟩), .int .u64 v] w (KRes B p cb fb (.tuple #[.int .u64 r.value, .bool r.lagged, .int .i64 r.err]) (stepsR s { F with receiving := true } ⟨0, 14, v, 0, 0, false, 0⟩ N).1 (stepsR s { F with receiving := true } ⟨0, 14, v, 0, 0, false, 0⟩ N).2.1 w) := by
  obtain ⟨z, hz⟩ : ∃ z : Nat → BS × Fd × Rd, z = stepsR s { F with receiving := true } ⟨0, 14, v, 0, 0, false, 0⟩ := ⟨_, rfl⟩
  have hzs : ∀ k, z (k + 1) = ((rstep (z k).1 (z k).2.1 (z k).2.2).1, (z k).2.1.rcv ((rstep (z k).1 (z k).2.1 (z k).2.2).2.ph != 0), (rstep (z k).1 (z k).2.1 (z k).2.2).2) := fun k => by rw [hz]; rfl
  have hz0 : z 0 = (s, { F with receiving := true }, ⟨0, 14, v, 0, 0, false, 0⟩) := by rw [hz]; rfl
  have hzt : ∀ k, (z k).2.2.t = 0 := fun k => by rw [hz]; exact stepsR_t _ _ _ k
  rw [← hz] at hst hr ⊢
  have HZ := hid hzs
  have HT := hid hzt
  have HS := hid hst
  have HR := hid hr
  have HE := hid hend
  have H0 := hid hz0
  have HP := hid hp
  clear hz hzs hzt hst hend hz0 hp hr
  go_enter Try.func17, Try.ntmps17
  go_wp2_with fail
  refine (frecv_ok B p cb fb lv s F w h 0 v ⟨by decide, by decide⟩ HP.out).mono ?_
  rintro e w1 ⟨qb, rfl, hf1, hq1, hc1, hqb⟩
  have hb1 : Below B w w1 := hc1.below hB (fun k e => by rw [e]; exact h.bf)
  have hqB : B ≤ qb := Nat.le_trans hB hqb
  go_wp2_with fail
  go_loopw [9, 10, 11] (fun n _ _ wr => ∃ j : Nat, j < N ∧ n = .int .i64 (j : Int) ∧ (∃ lv', FeedM B wr p cb fb lv' (z j).1 (z j).2.1) ∧ Blk wr qb 108 (rdCells fb (z j).2.2) ∧ Below B w wr) (fun n _ _ _ => 8 - (intOf n).toNat)
  case atStart => exact ⟨0, by omega, by simp, ⟨lv, by rw [H0.out]; exact hf1⟩, by rw [H0.out]; exact hq1, hb1⟩
  case round =>
    obtain ⟨j, hj, rfl, ⟨lv', hf⟩, hq, hbel⟩ := hrel
    have hs := HS.out j hj
    have hlg := hs.1
    have Hph := hid hs.2
    have HTp := hid (HT.out j)
    clear hs
    go_wp2_with fail
    refine (rstep_any B p cb fb qb lv' _ _ _ wr hf hq ⟨by rw [HTp.out]; decide, by rw [HTp.out]; decide⟩ hlg (Nat.le_trans hB hbel.size) Hph.out).mono ?_
    rintro e w2 ⟨rfl, lv2, hf2, hq2, hc2, hy2⟩
    have hz1 := HZ.out j
    have hb2 : Below B w w2 := hbel.trans (fp_below hf hqB (Nat.le_trans hB hbel.size) hc2)
    have e1 : (rstep (z j).1 (z j).2.1 (z j).2.2).1 = (z (j + 1)).1 := by rw [hz1]
    have e2 : (z j).2.1.rcv ((rstep (z j).1 (z j).2.1 (z j).2.2).2.ph != 0) = (z (j + 1)).2.1 := by rw [hz1]
    have e3 : (rstep (z j).1 (z j).2.1 (z j).2.2).2 = (z (j + 1)).2.2 := by rw [hz1]
    rw [e1, e2] at hf2
    rw [e3] at hq2
    rw [e3]
    have Hf2 := hid hf2
    have Hq2 := hid hq2
    clear e1 e2 e3 hz1 hf2 hq2 hf hq hc2
    by_cases hl : j + 1 = N
    · have hd : ((z (j + 1)).2.2.ph == 0) = true := by rw [beq_iff_eq, hl, HR.out]; exact HE.out
      subst hl
      go_wp2_with fail
      have hq3 := Hq2.out
      rw [HR.out] at hq3
      refine (fres_any fb qb r w2 hq3 HE.out).mono ?_
      rintro e w3 ⟨rfl, n3, rfl⟩
      clear hq3
      go_wp2_with fail
      go_ret3
      exact ⟨rfl, lv2, Hf2.out.keep ((Ch.refl _ w2).drewN n3), hb2.trans (((Ch.refl (fun _ => False) w2).drewN n3).below (Nat.le_trans hB hb2.size) (fun _ e => e.elim))⟩
    · have hd : ((z (j + 1)).2.2.ph == 0) = false := by
        rw [beq_eq_false_iff_ne]
        have := (HS.out (j + 1) (by omega)).2
        omega
      go_wp2_with fail
      go_roundw
      case rel => exact ⟨j + 1, by omega, by go_num, ⟨lv2, Hf2.out⟩, Hq2.out, hb2⟩
      case measure => simp [intOf]; omega
end Go.Proofs.Ytonjbofdmmnpdaa
