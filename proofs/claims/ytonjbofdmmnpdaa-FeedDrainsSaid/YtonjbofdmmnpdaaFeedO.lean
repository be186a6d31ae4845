/- The feed's run: play. -/
import Derived.Test.YtonjbofdmmnpdaaFeedM
import Derived.Test.YtonjbofdmmnpdaaFeedN
namespace Go.Proofs.Ytonjbofdmmnpdaa
open Go.RowKit
set_option linter.unusedVariables false
set_option linter.unusedSimpArgs false
set_option linter.unusedSectionVars false

/-- A run that play has made, after m steps. -/
def Good (n m : Nat) (x : Xs) : Prop := (∃ H T a, Inv x m H T a) ∧ x.f.n = n
theorem good_stP {n m : Nat} {x : Xs} (h : Good n m x) (hm : m ≤ 1000) {q : Pd} (hP : x.P = some q) : Good n (m + 1) (x.stP q) := by
  obtain ⟨⟨H, T, a, hI⟩, hn⟩ := h
  obtain ⟨T', hI', _, _⟩ := inv_stP hI hm hP
  exact ⟨⟨H, T', a, hI'⟩, hn⟩
theorem con_n (x : Xs) (r : Rd) : (x.conR r).f.n = x.f.n := by
  unfold Xs.conR Xs.endR
  split
  · split <;> rfl
  · rfl
theorem good_conR {n m : Nat} {x : Xs} (h : Good n m x) (hm : m ≤ 1000) {r : Rd} (hR : x.R = some r) : Good n (m + 1) (x.conR r) := by
  obtain ⟨⟨H, T, a, hI⟩, hn⟩ := h
  obtain ⟨H', a', hI', _, _⟩ := inv_conR hI hm hR
  exact ⟨⟨H', T, a', hI'⟩, (con_n x r).trans hn⟩
theorem inv_mono {x : Xs} {m m' H T a : Nat} (h : Inv x m H T a) (hm : m ≤ m') : Inv x m' H T a :=
  { h with lg := Nat.le_trans h.lg hm, HT := ⟨h.HT.1, h.HT.2.1, Nat.le_trans h.HT.2.2 hm⟩, pm := Nat.le_trans h.pm hm, gl := ⟨h.gl.1, Nat.le_trans h.gl.2 hm⟩ }
theorem Good.mono {n m m' : Nat} {x : Xs} (h : Good n m x) (hm : m ≤ m') : Good n m' x := by
  obtain ⟨⟨H, T, a, hI⟩, hn⟩ := h
  exact ⟨⟨H, T, a, inv_mono hI hm⟩, hn⟩

/-- A step of the producer. -/
theorem produce_any (B p cb fb X n m : Nat) (x : Xs) (k : Int) (w0 w : World) (hG : Good n m x) (hm : m < 1000) (hX : RunX B p cb fb X x w0 w) (hk : 0 ≤ k ∧ k ≤ 2) :
    Calls Try.prog 15 #[.pointer (some ⟨X, 0, none⟩), .int .u64 k] w fun e w' => e = .returned (.bool true) ∧ ∃ y, Good n (m + 2) y ∧ RunX B p cb fb X y w0 w' := by
  have hG0 := hG
  obtain ⟨⟨H, T, a, hI⟩, hn⟩ := hG
  rcases hP : x.P with _ | q
  · refine (produce_beg B p cb fb X x m H T a k w0 w hI hm hP hX hk).mono ?_
    rintro e w' ⟨he, hX'⟩
    refine ⟨he, _, ?_, hX'⟩
    have hG1 : Good n (m + 1) (x.begP k) := ⟨⟨H, T, a, inv_begP hI hP hk⟩, hn⟩
    exact good_stP hG1 (by omega) rfl
  · refine (produce_step B p cb fb X x m H T a k w0 w q hI (by omega) hP hX).mono ?_
    rintro e w' ⟨he, hX'⟩
    exact ⟨he, _, (good_stP hG0 (by omega) hP).mono (by omega), hX'⟩
/-- A step of the consumer. -/
theorem consume_any (B p cb fb X n m : Nat) (x : Xs) (w0 w : World) (hG : Good n m x) (hm : m < 1000) (hX : RunX B p cb fb X x w0 w) :
    Calls Try.prog 16 #[.pointer (some ⟨X, 0, none⟩)] w fun e w' => e = .returned (.bool true) ∧ ∃ y, Good n (m + 2) y ∧ RunX B p cb fb X y w0 w' := by
  have hG0 := hG
  obtain ⟨⟨H, T, a, hI⟩, hn⟩ := hG
  rcases hR : x.R with _ | r
  · refine (con_none B p cb fb X x m H T a w0 w hR hI (by omega) hX).mono ?_
    rintro e w' ⟨he, hX'⟩
    refine ⟨he, _, ?_, hX'⟩
    have hG1 : Good n m x.begR := ⟨⟨H, T, a, inv_begR hI hR⟩, hn⟩
    exact (good_conR hG1 (by omega) rfl).mono (by omega)
  · refine (con_some B p cb fb X x m H T a w0 w r hR hI (by omega) hX).mono ?_
    rintro e w' ⟨he, hX'⟩
    exact ⟨he, _, (good_conR hG0 (by omega) hR).mono (by omega), hX'⟩

set_option maxRecDepth 100000 in
set_option maxHeartbeats 2000000 in
theorem play_any (n : Nat) (h1 : 1 ≤ n) (h6 : n ≤ 6) (a : Option Addr) (l c : Nat) (ps : List Int) (w : World) (hd : InInts .u8 w a l ps) (hl : l ≤ 400) :
    Calls Try.prog 14 #[.int .i64 n, .slice a l c] w fun e w' => ∃ p cb fb X x, e = .returned (.pointer (some ⟨X, 0, none⟩)) ∧ Good n 900 x ∧ RunX w.heap.size p cb fb X x w w' := by
  go_enter Try.func14, Try.ntmps14
  go_wp2_with fail
  refine (begin_ok n h1 h6 w).mono ?_
  rintro e w1 ⟨p, cb, fb, X, rfl, hX⟩
  have hg0 : Good n 1 (Xs.zero n) := ⟨⟨0, 0, 0, inv_zero n h1 h6⟩, rfl⟩
  go_wp2_with fail
  go_loopw [6] (fun i wr => ∃ k : Nat, k ≤ l ∧ i = .int .i64 k ∧ ∃ x, Good n (2 * k + 1) x ∧ RunX w.heap.size p cb fb X x w wr) (fun i _ => l - (intOf i).toNat)
  case atStart => exact ⟨0, Nat.zero_le _, rfl, _, hg0, hX⟩
  case round =>
    obtain ⟨k, hk, rfl, x, hg, hX2⟩ := hrel
    clear hX hg0
    by_cases hlt : k < l
    · obtain ⟨b, off, rfl, hb, hc⟩ := hd.2.2 (by omega)
      have hwf := hd.mem hlt
      have hbel : Below w.heap.size w wr := by obtain ⟨_, _, _, _, _, _, _, hW⟩ := hX2; exact hW.bel
      have hcell : wr.cell? ⟨b, off + k, none⟩ = some (.int .u8 (lk ps k)) := (hbel.cell hb).trans (hc k hlt)
      have hbnd : 0 ≤ lk ps k ∧ lk ps k < 256 := wf_u8 hwf
      generalize lk ps k = v at hcell hbnd
      have hd1 : decide ((k : Int) < (l : Int)) = true := decide_eq_true (by omega)
      have HX := hid hX2
      have Hg := hid hg
      have Hd := hid hd
      clear hc hwf hbel hX2 hg hd
      by_cases hev : v % 2 = 0
      · have hb1 : (v % 2 == 0) = true := by rw [beq_iff_eq]; exact hev
        go_wp2_with fail
        refine (produce_any _ p cb fb X n _ x _ w wr Hg.out (by omega) HX.out ?_).mono ?_
        · omega
        rintro e w2 ⟨rfl, y, hy, hYX⟩
        go_wp2_with fail
        go_roundw
        case rel => exact ⟨k + 1, by omega, by go_num, y, hy.mono (by omega), hYX⟩
        case measure => simp [intOf]; omega
      · have hb1 : (v % 2 == 0) = false := by rw [beq_eq_false_iff_ne]; exact hev
        go_wp2_with fail
        refine (consume_any _ p cb fb X n _ x w wr Hg.out (by omega) HX.out).mono ?_
        rintro e w2 ⟨rfl, y, hy, hYX⟩
        go_wp2_with fail
        go_roundw
        case rel => exact ⟨k + 1, by omega, by go_num, y, hy.mono (by omega), hYX⟩
        case measure => simp [intOf]; omega
    · have hkl : k = l := by omega
      have hd1 : decide ((k : Int) < (l : Int)) = false := decide_eq_false (by omega)
      go_wp2_with fail
      go_ret
      exact ⟨p, cb, fb, X, x, rfl, hg.mono (by omega), hX2⟩
end Go.Proofs.Ytonjbofdmmnpdaa
