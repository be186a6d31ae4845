/- CellReplayed: the walk. -/
import Derived.Test.YtnoaeeiekblpbaaRun
import Derived.Test.YtnoaeeiekblpbaaReplayedPlain
namespace Go.Proofs.Ytnoaeeiekblpbaa
open Go.RowKit
set_option linter.unusedVariables false

theorem InSteps.below {w w' : World} {a : Option Addr} {n : Nat} {xs : List StepD} (h : InSteps w a n xs) (hb : Below w.heap.size w w') {k : Nat} (hk : k ≤ n) : InSteps w' a k (xs.take k) := by
  refine ⟨by rw [List.length_take, h.1]; omega, fun x hx => h.2.1 x (List.mem_of_mem_take hx), fun h0 => ?_⟩
  obtain ⟨b, off, rfl, hbl, hcell⟩ := h.2.2 (by omega)
  refine ⟨b, off, rfl, Nat.lt_of_lt_of_le hbl hb.size, fun i j x v hi hj => ?_⟩
  rw [hb.cell (p := ⟨b, off + (i * 5 + j), none⟩) hbl]
  refine hcell i j x v ?_ hj
  rw [List.getElem?_take] at hi
  split at hi
  · exact hi
  · cases hi

theorem run_slice_high {P : Program} (t e : TypeId) (ht : P.underlying t = some (.slice e)) (size : Nat) (hz : (P.info? e).map (·.size) = some size) (A : Option Addr) (n cap k : Nat) (hk : k ≤ cap) (w : World) :
    (Instr.sliceAt t (.slice A n cap) none (some (.int .i64 (k : Int))) none).run P w = .ok (.slice A k cap) w := by
  cases hq : P.info? e with
  | none => simp [hq] at hz
  | some inf =>
    have h1 : (0 : Int) ≤ (k : Int) ∧ (k : Int) ≤ (cap : Int) := by omega
    simp only [Instr.sliceAt, Sem.run_bind, run_underlying ht, Result.andThen_ok, Instr.slice, Instr.sliceBounds, Instr.sliceBound, asIntOf, Sem.run_pure, h1, and_self, if_true, Int.toNat_natCast, sizeOf, typeInfo]
    simp [program, Sem.run, hq]
    cases A <;> simp [Addr.add]

set_option maxRecDepth 100000 in
set_option maxHeartbeats 2000000 in
theorem replayed_main (n : Nat) (hn1 : 1 ≤ n) (hn2 : n ≤ 16) (a : Option Addr) (nl cl : Nat) (xs : List StepD) (w : World) (hx : InSteps w a nl xs) (hl : nl ≤ 60) (hcl : nl ≤ cl) :
    Calls Try.prog 10 #[.int .i64 n, .slice a nl cl] w fun e w' => e = .returned (.bool true) ∧ Below w.heap.size w w' := by
  have hsl := fun k hk => run_slice_high (P := Try.prog) 43 56 Try.underlying43 5 (by kernel_rfl) a nl cl k hk
  go_enter Try.func10, Try.ntmps10
  go_wp2_with fail
  go_loopw [5] (fun i wr => ∃ k : Nat, k ≤ nl + 1 ∧ i = .int .i64 k ∧ Below w.heap.size w wr) (fun i _ => nl + 1 - (intOf i).toNat)
  case atStart => exact ⟨0, Nat.zero_le _, rfl, Below.refl _ _⟩
  case round =>
    obtain ⟨k, hk, rfl, hbel⟩ := hrel
    by_cases hlt : k ≤ nl
    · have hslk := hsl k (by omega)
      have Hsl := hid hsl
      clear hsl
      go_wp2_with fail
      refine (run_any n hn1 (by omega) a k cl (xs.take k) wr (hx.below hbel hlt) (by omega)).mono ?_
      rintro e w1 ⟨p, cb, lv, rfl, hbank, hb1⟩
      obtain ⟨s, hs⟩ : ∃ s, s = runS n (xs.take k) := ⟨_, rfl⟩
      have hrep : Replays n s := hs ▸ replays_run n (xs.take k)
      have hlen := runS_len n (xs.take k)
      rw [← hs] at hbank hlen
      clear hs
      obtain ⟨hvl, hll⟩ := hlen
      have hlg : s.lg.length ≤ 200 := by have := List.length_take_le k xs; omega
      go_wp2_with fail
      refine (log_any wr.heap.size p cb lv s 0 w1 hbank (by omega)).mono ?_
      rintro e w2 ⟨gl, rfl, hlog, hc2, hgl⟩
      have hcut : cutAt 0 s.lg.length = 0 := by simp [cutAt]
      rw [hcut, List.drop_zero] at hlog ⊢
      clear hcut
      have hbank2 := hbank.ch hc2 id id (fun _ _ => id)
      go_wp2_with fail
      refine (replay_ok n hn1 (by omega) _ _ _ s.lg w2 (blk_accs hlog) (by omega)).mono ?_
      rintro e w3 ⟨hc3, hans⟩
      rw [hrep] at hans
      obtain ⟨hvn, gv, rfl, hval⟩ := hans
      have hbank3 := hbank2.ch hc3 id id (fun _ _ => id)
      have hbel3 : Below w.heap.size w w3 := ((hbel.trans (hb1.mono hbel.size)).trans (hc2.below (Nat.le_trans hbel.size hb1.size) (fun _ h => h.elim))).trans (hc3.below (Nat.le_trans (Nat.le_trans hbel.size hb1.size) hc2.size) (fun _ h => h.elim))
      have Hvn := hid hvn
      have Hrep := hid hrep
      clear hvn hrep hvl hbank hbank2 hlog
      have hne : ((s.lg.length : Int) != (s.lg.length : Int)) = false := by simp
      go_wp2_with fail
      refine (len_any wr.heap.size p cb lv s w3 hbank3).mono ?_
      rintro e w4 ⟨rfl, rfl⟩
      go_wp2_with fail
      refine (values_any wr.heap.size p cb lv s w3 hbank3).mono ?_
      rintro e w5 ⟨gu, rfl, hval2, hc5, hgu⟩
      have hval5 := hc5.blk hval id
      have hbel5 := hbel3.trans (hc5.below hbel3.size (fun _ h => h.elim))
      have hvn2 := Hvn.out
      rw [hvn2]
      clear hvn2
      go_wp2_with fail
      refine (eqWords_any _ _ n n n n s.vs s.vs w5 ⟨Hvn.out, fun _ => ⟨gv, 0, rfl, fun i hi => by rw [Nat.zero_add]; exact (hval5.cell i).trans (u64s_getD _ _ (by rw [Hvn.out]; exact hi))⟩⟩ ⟨Hvn.out, fun _ => ⟨gu, 0, rfl, fun i hi => by rw [Nat.zero_add]; exact (hval2.cell i).trans (u64s_getD _ _ (by rw [Hvn.out]; exact hi))⟩⟩ (by omega)).mono ?_
      rintro e w6 ⟨rfl, d, rfl⟩
      have hdec : decide (s.vs = s.vs) = true := by simp
      go_wp2_with fail
      go_roundw
      case rel => exact ⟨k + 1, by omega, by go_num, hbel5.trans ⟨rfl, rfl, rfl, Nat.le_refl _, fun _ _ => rfl⟩⟩
      case measure => simp [intOf]; omega
    · clear hsl
      go_wp2_with fail
      go_ret
      exact ⟨rfl, hbel⟩

set_option maxHeartbeats 400000 in
theorem replayed_walk (n : Int) (a : Option Addr) (nl cl : Nat) (ls : List (List Value)) (w : World) (hn : (Lit.int .i64 n).wf = true) (hx : InRows stepKs w a nl ls) (hcl : nl ≤ cl ∧ (a = none → cl = 0)) :
    Calls Try.prog 10 #[.int .i64 n, .slice a nl cl] w fun e w' => e = .returned (.bool true) ∧ Below w.heap.size w w' := by
  obtain ⟨xs, hx⟩ := in_steps hx
  by_cases h1 : 60 < nl
  · go_enter Try.func10, Try.ntmps10
    go_wp2_with fail
    all_goals (go_ret; exact ⟨rfl, Below.refl _ _⟩)
  · have h1' : nl ≤ 60 := by omega
    by_cases h2 : n < 1
    · go_enter Try.func10, Try.ntmps10
      go_wp2_with fail
      all_goals (go_ret; exact ⟨rfl, Below.refl _ _⟩)
    · have h2' : 1 ≤ n := by omega
      by_cases h3 : 16 < n
      · go_enter Try.func10, Try.ntmps10
        go_wp2_with fail
        all_goals (go_ret; exact ⟨rfl, Below.refl _ _⟩)
      · obtain ⟨n, rfl⟩ := Int.eq_ofNat_of_zero_le (by omega : 0 ≤ n)
        exact replayed_main n (by omega) (by omega) a nl cl xs w hx h1' hcl.1
end Go.Proofs.Ytnoaeeiekblpbaa
