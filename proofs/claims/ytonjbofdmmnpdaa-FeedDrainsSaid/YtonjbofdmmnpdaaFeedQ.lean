/- The feed: five laws of a run. -/
import Derived.Test.YtonjbofdmmnpdaaFeedO
import Derived.Test.YtonjbofdmmnpdaaFeedH
namespace Go.Proofs.Ytonjbofdmmnpdaa
open Go.RowKit
set_option linter.unusedVariables false
set_option linter.unusedSimpArgs false
set_option linter.unusedSectionVars false

theorem someB_spec {n : Int} {l : Nat} (h : someB n l = true) : ∃ k : Nat, n = k ∧ 1 ≤ k ∧ k ≤ 6 ∧ l ≤ 400 := by
  simp only [someB, Bool.and_eq_true, decide_eq_true_eq] at h
  exact ⟨n.toNat, by omega, by omega, by omega, h.2⟩

set_option maxRecDepth 100000 in
set_option maxHeartbeats 2000000 in
theorem walkRises (n : Int) (a : Option Addr) (l c : Nat) (ps : List Int) (w : World) (hn : (Lit.int .i64 n).wf = true) (hd : InInts .u8 w a l ps) :
    Calls Try.prog 3 #[.int .i64 n, .slice a l c] w fun e w' => e = .returned (.bool true) ∧ Below w.heap.size w w' := by
  by_cases hs : someB n l = true
  · obtain ⟨k, rfl, h1, h6, hl⟩ := someB_spec hs
    have Hd := hid hd
    clear hd hn
    go_enter Try.func3, Try.ntmps3
    go_wp2_with fail
    refine (some_any _ a l c w).mono ?_
    rintro e w0 ⟨rfl, rfl⟩
    rw [hs]
    go_wp2_with fail
    refine (play_any k h1 h6 a l c ps w Hd.out hl).mono ?_
    rintro e w1 ⟨p, cb, fb, X, x, rfl, hG, lv, vp, vi, vg, vl, pb, rb, hR⟩
    have x14 : w1.cell? ⟨X, 14, none⟩ = some (.bool true) := hR.x.cell 14
    have hbel := hR.bel
    clear hR hG
    go_wp2_with fail
    refine (known_any w1).mono ?_
    rintro e w2 ⟨rfl, hb⟩
    go_wp2_with fail
    go_ret
    exact ⟨rfl, hbel.trans (hb.mono hbel.size)⟩
  · have hs' : someB n l = false := by simpa using hs
    clear hs
    go_enter Try.func3, Try.ntmps3
    go_wp2_with fail
    refine (some_any n a l c w).mono ?_
    rintro e w0 ⟨rfl, rfl⟩
    rw [hs']
    go_wp2_with fail
    refine (known_any w).mono ?_
    rintro e w2 ⟨rfl, hb⟩
    go_wp2_with fail
    go_ret
    exact ⟨rfl, hb⟩

set_option maxRecDepth 100000 in
set_option maxHeartbeats 2000000 in
theorem walkGapless (n : Int) (a : Option Addr) (l c : Nat) (ps : List Int) (w : World) (hn : (Lit.int .i64 n).wf = true) (hd : InInts .u8 w a l ps) :
    Calls Try.prog 4 #[.int .i64 n, .slice a l c] w fun e w' => e = .returned (.bool true) ∧ Below w.heap.size w w' := by
  by_cases hs : someB n l = true
  · obtain ⟨k, rfl, h1, h6, hl⟩ := someB_spec hs
    have Hd := hid hd
    clear hd hn
    go_enter Try.func4, Try.ntmps4
    go_wp2_with fail
    refine (some_any _ a l c w).mono ?_
    rintro e w0 ⟨rfl, rfl⟩
    rw [hs]
    go_wp2_with fail
    refine (play_any k h1 h6 a l c ps w Hd.out hl).mono ?_
    rintro e w1 ⟨p, cb, fb, X, x, rfl, hG, lv, vp, vi, vg, vl, pb, rb, hR⟩
    have x14 : w1.cell? ⟨X, 14, none⟩ = some (.bool true) := hR.x.cell 14
    have x15 : w1.cell? ⟨X, 15, none⟩ = some (.bool true) := hR.x.cell 15
    have hbel := hR.bel
    clear hR hG
    go_wp2_with fail
    refine (known_any w1).mono ?_
    rintro e w2 ⟨rfl, hb⟩
    go_wp2_with fail
    go_ret
    exact ⟨rfl, hbel.trans (hb.mono hbel.size)⟩
  · have hs' : someB n l = false := by simpa using hs
    clear hs
    go_enter Try.func4, Try.ntmps4
    go_wp2_with fail
    refine (some_any n a l c w).mono ?_
    rintro e w0 ⟨rfl, rfl⟩
    rw [hs']
    go_wp2_with fail
    refine (known_any w).mono ?_
    rintro e w2 ⟨rfl, hb⟩
    go_wp2_with fail
    go_ret
    exact ⟨rfl, hb⟩

set_option maxRecDepth 100000 in
set_option maxHeartbeats 2000000 in
theorem walkLags (n : Int) (a : Option Addr) (l c : Nat) (ps : List Int) (w : World) (hn : (Lit.int .i64 n).wf = true) (hd : InInts .u8 w a l ps) :
    Calls Try.prog 5 #[.int .i64 n, .slice a l c] w fun e w' => e = .returned (.bool true) ∧ Below w.heap.size w w' := by
  by_cases hs : someB n l = true
  · obtain ⟨k, rfl, h1, h6, hl⟩ := someB_spec hs
    have Hd := hid hd
    clear hd hn
    go_enter Try.func5, Try.ntmps5
    go_wp2_with fail
    refine (some_any _ a l c w).mono ?_
    rintro e w0 ⟨rfl, rfl⟩
    rw [hs]
    go_wp2_with fail
    refine (play_any k h1 h6 a l c ps w Hd.out hl).mono ?_
    rintro e w1 ⟨p, cb, fb, X, x, rfl, hG, lv, vp, vi, vg, vl, pb, rb, hR⟩
    have x16 : w1.cell? ⟨X, 16, none⟩ = some (.bool true) := hR.x.cell 16
    have hbel := hR.bel
    clear hR hG
    go_wp2_with fail
    refine (known_any w1).mono ?_
    rintro e w2 ⟨rfl, hb⟩
    go_wp2_with fail
    go_ret
    exact ⟨rfl, hbel.trans (hb.mono hbel.size)⟩
  · have hs' : someB n l = false := by simpa using hs
    clear hs
    go_enter Try.func5, Try.ntmps5
    go_wp2_with fail
    refine (some_any n a l c w).mono ?_
    rintro e w0 ⟨rfl, rfl⟩
    rw [hs']
    go_wp2_with fail
    refine (known_any w).mono ?_
    rintro e w2 ⟨rfl, hb⟩
    go_wp2_with fail
    go_ret
    exact ⟨rfl, hb⟩

set_option maxRecDepth 100000 in
set_option maxHeartbeats 2000000 in
theorem walkEmpties (n : Int) (a : Option Addr) (l c : Nat) (ps : List Int) (w : World) (hn : (Lit.int .i64 n).wf = true) (hd : InInts .u8 w a l ps) :
    Calls Try.prog 6 #[.int .i64 n, .slice a l c] w fun e w' => e = .returned (.bool true) ∧ Below w.heap.size w w' := by
  by_cases hs : someB n l = true
  · obtain ⟨k, rfl, h1, h6, hl⟩ := someB_spec hs
    have Hd := hid hd
    clear hd hn
    go_enter Try.func6, Try.ntmps6
    go_wp2_with fail
    refine (some_any _ a l c w).mono ?_
    rintro e w0 ⟨rfl, rfl⟩
    rw [hs]
    go_wp2_with fail
    refine (play_any k h1 h6 a l c ps w Hd.out hl).mono ?_
    rintro e w1 ⟨p, cb, fb, X, x, rfl, hG, lv, vp, vi, vg, vl, pb, rb, hR⟩
    have x17 : w1.cell? ⟨X, 17, none⟩ = some (.bool true) := hR.x.cell 17
    have hbel := hR.bel
    clear hR hG
    go_wp2_with fail
    refine (known_any w1).mono ?_
    rintro e w2 ⟨rfl, hb⟩
    go_wp2_with fail
    go_ret
    exact ⟨rfl, hbel.trans (hb.mono hbel.size)⟩
  · have hs' : someB n l = false := by simpa using hs
    clear hs
    go_enter Try.func6, Try.ntmps6
    go_wp2_with fail
    refine (some_any n a l c w).mono ?_
    rintro e w0 ⟨rfl, rfl⟩
    rw [hs']
    go_wp2_with fail
    refine (known_any w).mono ?_
    rintro e w2 ⟨rfl, hb⟩
    go_wp2_with fail
    go_ret
    exact ⟨rfl, hb⟩

set_option maxRecDepth 100000 in
set_option maxHeartbeats 2000000 in
theorem walkSteady (n : Int) (a : Option Addr) (l c : Nat) (ps : List Int) (w : World) (hn : (Lit.int .i64 n).wf = true) (hd : InInts .u8 w a l ps) :
    Calls Try.prog 7 #[.int .i64 n, .slice a l c] w fun e w' => e = .returned (.bool true) ∧ Below w.heap.size w w' := by
  by_cases hs : someB n l = true
  · obtain ⟨k, rfl, h1, h6, hl⟩ := someB_spec hs
    have Hd := hid hd
    clear hd hn
    go_enter Try.func7, Try.ntmps7
    go_wp2_with fail
    refine (some_any _ a l c w).mono ?_
    rintro e w0 ⟨rfl, rfl⟩
    rw [hs]
    go_wp2_with fail
    refine (play_any k h1 h6 a l c ps w Hd.out hl).mono ?_
    rintro e w1 ⟨p, cb, fb, X, x, rfl, hG, lv, vp, vi, vg, vl, pb, rb, hR⟩
    have x18 : w1.cell? ⟨X, 18, none⟩ = some (.bool true) := hR.x.cell 18
    have hbel := hR.bel
    clear hR hG
    go_wp2_with fail
    refine (known_any w1).mono ?_
    rintro e w2 ⟨rfl, hb⟩
    go_wp2_with fail
    go_ret
    exact ⟨rfl, hbel.trans (hb.mono hbel.size)⟩
  · have hs' : someB n l = false := by simpa using hs
    clear hs
    go_enter Try.func7, Try.ntmps7
    go_wp2_with fail
    refine (some_any n a l c w).mono ?_
    rintro e w0 ⟨rfl, rfl⟩
    rw [hs']
    go_wp2_with fail
    refine (known_any w).mono ?_
    rintro e w2 ⟨rfl, hb⟩
    go_wp2_with fail
    go_ret
    exact ⟨rfl, hb⟩
end Go.Proofs.Ytonjbofdmmnpdaa
