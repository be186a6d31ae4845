/- CellConsistent: the walk. -/
import Derived.Test.YtnoaeeiekblpbaaRun
import Derived.Test.YtnoaeeiekblpbaaConsPlain
namespace Go.Proofs.Ytnoaeeiekblpbaa
open Go.RowKit
set_option linter.unusedVariables false

/-- Of the latest access to c among the first k. -/
def nowAt (lg : List Acc) (c k : Nat) : Int := nowL (lg.take k) c
theorem nowAt_next {lg : List Acc} {c k : Nat} {x : Acc} (h : lg[k]? = some x) : nowAt lg c (k + 1) = if x.c = (c : Int) then x.n else nowAt lg c k := by
  unfold nowAt
  have hk := (List.getElem?_eq_some_iff.1 h)
  rw [List.take_succ_eq_append_getElem hk.1, hk.2, nowL_snoc]

set_option maxRecDepth 100000 in
set_option maxHeartbeats 2000000 in
theorem cons_main (n : Nat) (hn1 : 1 ≤ n) (hn2 : n ≤ 64) (a : Option Addr) (nl cl : Nat) (xs : List StepD) (w : World) (hx : InSteps w a nl xs) (hl : nl ≤ 200) :
    Calls Try.prog 6 #[.int .i64 n, .slice a nl cl] w fun e w' => e = .returned (.bool true) ∧ Below w.heap.size w w' := by
  go_enter Try.func6, Try.ntmps6
  go_wp2_with fail
  refine (run_any n hn1 (by omega) a nl cl xs w hx hl).mono ?_
  rintro e w1 ⟨p, cb, lv, rfl, hbank, hb1⟩
  obtain ⟨s, hs⟩ : ∃ s, s = runS n xs := ⟨_, rfl⟩
  have hcons : Cons s := hs ▸ cons_run n xs
  have hlen := runS_len n xs
  rw [← hs] at hbank hlen
  clear hs
  obtain ⟨hvl, hll⟩ := hlen
  have hlg : s.lg.length ≤ 200 := by have := hx.1; omega
  go_wp2_with fail
  refine (log_any w.heap.size p cb lv s 0 w1 hbank (by omega)).mono ?_
  rintro e w2 ⟨gl, rfl, hlog, hc2, hgl⟩
  have hcut : cutAt 0 s.lg.length = 0 := by simp [cutAt]
  rw [hcut, List.drop_zero] at hlog ⊢
  clear hcut
  have hbank2 := hbank.ch hc2 id id (fun _ _ => id)
  go_wp2_with fail
  refine (values_any w.heap.size p cb lv s w2 hbank2).mono ?_
  rintro e w3 ⟨gv, rfl, hval, hc3, hgv⟩
  have hbank3 := hbank2.ch hc3 id id (fun _ _ => id)
  have hlog3 := hc3.blk hlog id
  have hbel : Below w.heap.size w w3 := (hb1.trans (hc2.below hb1.size (fun _ h => h.elim))).trans (hc3.below (Nat.le_trans hb1.size hc2.size) (fun _ h => h.elim))
  have Hvl := hid hvl
  have Hcons := hid hcons
  rw [hvl]
  have hxl := hx.1
  clear hvl hcons hlog hbank2 hbank hx
  go_wp2_with fail
  refine (len_any w.heap.size p cb lv s w3 hbank3).mono ?_
  rintro e w4 ⟨rfl, rfl⟩
  have hne1 : ((s.lg.length : Int) != (s.lg.length : Int)) = false := by simp
  have hne2 : ((n : Int) != (n : Int)) = false := by simp
  have hll' : ¬ (nl : Int) < (s.lg.length : Int) := by omega
  clear hxl
  go_wp2_with fail
  go_loop [8] (fun i => ∃ c : Nat, c ≤ n ∧ i = .int .i64 c) (fun i => n - (intOf i).toNat)
  case atStart => exact ⟨0, Nat.zero_le _, rfl⟩
  case round =>
    obtain ⟨c, hc, rfl⟩ := hrel
    by_cases hlt : c < n
    · have hvc := (hval.cell c).trans (u64s_getD s.vs c (by have := Hvl.out; omega))
      go_wp2_with fail
      go_loop [9, 10] (fun v i => ∃ k : Nat, k ≤ s.lg.length ∧ i = .int .i64 k ∧ v = .int .u64 (nowAt s.lg c k)) (fun _ i => s.lg.length - (intOf i).toNat)
      case atStart => exact ⟨0, Nat.zero_le _, rfl, rfl⟩
      case round =>
        obtain ⟨k, hk, rfl, rfl⟩ := hrel
        by_cases hkl : k < s.lg.length
        · obtain ⟨x, hxk⟩ : ∃ x, s.lg[k]? = some x := ⟨_, List.getElem?_eq_getElem hkl⟩
          have c1 : w3.cell? ⟨gl, k * 6 + 1, none⟩ = some (.int .i64 x.c) := (hlog3.cell _).trans (by simpa using logCells_get s.lg k x hxk 1 _ rfl)
          have c2 : w3.cell? ⟨gl, k * 6 + 2, none⟩ = some (.int .u8 x.k) := (hlog3.cell _).trans (by simpa using logCells_get s.lg k x hxk 2 _ rfl)
          have c3 : w3.cell? ⟨gl, k * 6 + 3, none⟩ = some (.int .u64 x.o) := (hlog3.cell _).trans (by simpa using logCells_get s.lg k x hxk 3 _ rfl)
          have c4 : w3.cell? ⟨gl, k * 6 + 4, none⟩ = some (.int .u64 x.n) := (hlog3.cell _).trans (by simpa using logCells_get s.lg k x hxk 4 _ rfl)
          have hnext := nowAt_next (c := c) hxk
          have hsee := Hcons.out.see k x hxk
          have Hn := hid hnext
          clear hnext hxk
          by_cases hxc : x.c = (c : Int)
          · have t1 : (x.c != (c : Int)) = false := by simpa using hxc
            have ho : x.o = nowAt s.lg c k := by rw [hsee.1, hxc]; rfl
            have t2 : (x.o != nowAt s.lg c k) = false := by simpa using ho
            by_cases hk1 : x.k = 1
            · have t3 : (x.k == 1) = true := by simpa using hk1
              have t4 : (x.n != nowAt s.lg c k) = false := by rw [hsee.2 hk1, ho]; simp
              have Hxc := hid hxc
              clear hsee hxc ho hk1
              go_wp2_with fail
              go_round
              case rel => exact ⟨k + 1, by omega, by go_num, by rw [Hn.out, if_pos Hxc.out]⟩
              case measure => simp [intOf]; omega
            · have t3 : (x.k == 1) = false := by simpa using hk1
              have Hxc := hid hxc
              clear hsee hxc ho hk1
              go_wp2_with fail
              go_round
              case rel => exact ⟨k + 1, by omega, by go_num, by rw [Hn.out, if_pos Hxc.out]⟩
              case measure => simp [intOf]; omega
          · have t1 : (x.c != (c : Int)) = true := by simpa using hxc
            have Hxc := hid hxc
            clear hsee hxc
            go_wp2_with fail
            go_round
            case rel => exact ⟨k + 1, by omega, by go_num, by rw [Hn.out, if_neg Hxc.out]⟩
            case measure => simp [intOf]; omega
        · have hkk : k = s.lg.length := by omega
          subst hkk
          have hnow : nowAt s.lg c s.lg.length = lk s.vs c := by rw [nowAt, List.take_length]; exact Hcons.out.now c (by have := Hvl.out; omega)
          have t5 : (lk s.vs c != nowAt s.lg c s.lg.length) = false := by rw [hnow]; simp
          clear hnow
          go_wp2_with fail
          go_round
          case rel => exact ⟨c + 1, by omega, by go_num⟩
          case measure => simp [intOf]; omega
    · have : c = n := by omega
      subst this
      go_wp2_with fail
      go_ret
      exact ⟨rfl, hbel⟩

set_option maxHeartbeats 400000 in
theorem cons_walk (n : Int) (a : Option Addr) (nl cl : Nat) (ls : List (List Value)) (w : World) (hn : (Lit.int .i64 n).wf = true) (hx : InRows stepKs w a nl ls) :
    Calls Try.prog 6 #[.int .i64 n, .slice a nl cl] w fun e w' => e = .returned (.bool true) ∧ Below w.heap.size w w' := by
  obtain ⟨xs, hx⟩ := in_steps hx
  by_cases h1 : 200 < nl
  · go_enter Try.func6, Try.ntmps6
    go_wp2_with fail
    go_ret
    exact ⟨rfl, Below.refl _ _⟩
  · have h1' : nl ≤ 200 := by omega
    by_cases h2 : n < 1
    · go_enter Try.func6, Try.ntmps6
      go_wp2_with fail
      go_ret
      exact ⟨rfl, Below.refl _ _⟩
    · have h2' : 1 ≤ n := by omega
      by_cases h3 : 64 < n
      · go_enter Try.func6, Try.ntmps6
        go_wp2_with fail
        all_goals (go_ret; exact ⟨rfl, Below.refl _ _⟩)
      · obtain ⟨n, rfl⟩ := Int.eq_ofNat_of_zero_le (by omega : 0 ≤ n)
        exact cons_main n (by omega) (by omega) a nl cl xs w hx h1'
end Go.Proofs.Ytnoaeeiekblpbaa
