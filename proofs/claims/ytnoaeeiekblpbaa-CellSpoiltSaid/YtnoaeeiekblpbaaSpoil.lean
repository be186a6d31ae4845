/- CellSpoilt: the plain law and the walk. -/

import Derived.Test.YtnoaeeiekblpbaaReplayed
import Derived.Test.YtnoaeeiekblpbaaCellF
import Derived.Laws.OwnMore
namespace Go.Proofs.Ytnoaeeiekblpbaa
open Go.RowKit
set_option linter.unusedVariables false

theorem bits_xor_ne (o x : Int) (h0 : 0 ≤ x) (h1 : x < 18446744073709551616) (h2 : x ≠ 0) : bits .xor .u64 o x ≠ o := by
  intro h
  have hd : bits .xor .u64 o x = IntKind.u64.wrap ((BitVec.ofInt 64 o ^^^ BitVec.ofInt 64 x).toNat : Int) := rfl
  rw [hd, IntKind.wrap_u64] at h
  have hl : (BitVec.ofInt 64 o ^^^ BitVec.ofInt 64 x).toNat < 2 ^ 64 := (BitVec.ofInt 64 o ^^^ BitVec.ofInt 64 x).isLt
  have h3 : ((BitVec.ofInt 64 o ^^^ BitVec.ofInt 64 x).toNat : Int) = o := by omega
  have h4 : BitVec.ofInt 64 o = BitVec.ofInt 64 o ^^^ BitVec.ofInt 64 x := by
    conv => lhs; rw [← h3]
    rw [BitVec.ofInt_natCast, BitVec.ofNat_toNat]
    simp
  have h5 : BitVec.ofInt 64 x = 0#64 := by
    have h6 := congrArg (fun z => BitVec.ofInt 64 o ^^^ z) h4
    simp only [BitVec.xor_self] at h6
    rw [← BitVec.xor_assoc, BitVec.xor_self, BitVec.zero_xor] at h6
    exact h6.symm
  have h7 := congrArg BitVec.toInt h5
  have h8 := congrArg BitVec.toNat h5
  rw [BitVec.toNat_ofInt] at h8
  simp at h8
  omega

def Acc.seen (x : Acc) (o : Int) : Acc := ⟨x.t, x.c, x.k, o, x.n, x.s⟩
theorem okAt_seen {vs : List Int} {x : Acc} (h : okAt vs x = true) {o : Int} (ho : o ≠ x.o) : okAt vs (x.seen o) = false := by
  simp only [okAt, Bool.and_eq_true, Acc.seen] at h ⊢
  have h2 := h.2
  unfold possB at h2
  split at h2
  · rename_i he
    simp [possB, ← he, ho]
  · cases h2

theorem repF_spoilt : ∀ (lg : List Acc) (vs : List Int) (k : Nat) (r : List Int) (m : Nat), repF vs k lg = (some r, m) → ∀ (i : Nat) (x : Acc), lg[i]? = some x → ∀ o, o ≠ x.o → repF vs k (lg.set i (x.seen o)) = (none, k + i)
  | [], _, _, _, _, _, i, x, hx, _, _ => by simp at hx
  | y :: l, vs, k, r, m, h, i, x, hx, o, ho => by
    unfold repF at h
    split at h
    · rename_i hok
      cases i with
      | zero =>
        simp at hx
        subst hx
        simp [repF, okAt_seen hok ho]
      | succ i =>
        have := repF_spoilt l _ _ r m h i x (by simpa using hx) o ho
        simp only [List.set_cons_succ, repF, hok, if_true, this]
        congr 1
        omega
    · simp at h

theorem logCells_seen : ∀ (lg : List Acc) (i : Nat) (x : Acc), lg[i]? = some x → ∀ o : Int, (logCells lg).set (i * 6 + 3) (.int .u64 o) = logCells (lg.set i (x.seen o))
  | [], i, x, hx, _ => by simp at hx
  | y :: l, i, x, hx, o => by
    cases i with
    | zero =>
      simp at hx
      subst hx
      simp [logCells, Acc.cells, Acc.seen]
    | succ i =>
      have := logCells_seen l i x (by simpa using hx) o
      have e : (i + 1) * 6 + 3 = y.cells.length + (i * 6 + 3) := by simp [Acc.cells]; omega
      have c : ∀ l' : List Acc, logCells (y :: l') = y.cells ++ logCells l' := fun l' => by simp [logCells]
      rw [List.set_cons_succ, c, c, e, ← this, List.set_append_right _ _ (by omega)]
      congr 2
      omega

theorem accs_of_own {w : World} {B n g cap : Nat} {lg : List Acc} (h : w.ownsRow B 49 6 (.slice (some ⟨g, 0, none⟩) n cap) n (logCells lg)) : InAccs w (some ⟨g, 0, none⟩) n lg := by
  obtain ⟨A, c, hv, _, hin⟩ := own_accs h
  injection hv with hA _ _
  subst hA
  exact hin

theorem tm (a : Int) (m : Nat) (hm : 0 < m) : ∃ k : Nat, k < m ∧ (a.tmod m + m).tmod m = (k : Int) ∧ -(m : Int) < a.tmod m ∧ a.tmod m < m := by
  have h1 := Int.tmod_lt_of_pos a (b := m) (by omega)
  have h0 : -(m : Int) < a.tmod m := by
    have := Int.tmod_lt_of_pos (-a) (b := m) (by omega)
    rw [Int.neg_tmod] at this
    omega
  have h2 : 0 ≤ (a.tmod m + m).tmod m := Int.tmod_nonneg _ (by omega)
  have h3 := Int.tmod_lt_of_pos (a.tmod m + m) (b := m) (by omega)
  exact ⟨((a.tmod m + m).tmod m).toNat, by omega, by omega, h0, h1⟩

set_option maxRecDepth 100000 in
set_option maxHeartbeats 2000000 in
theorem spoilt_main (n : Nat) (hn1 : 1 ≤ n) (hn2 : n ≤ 16) (a : Option Addr) (nl cl : Nat) (xs : List StepD) (at' x : Int) (hx0 : 0 ≤ x) (hx1 : x < 18446744073709551616) (hx2 : x ≠ 0) (w : World) (hx : InSteps w a nl xs) (hl : nl ≤ 100) :
    Calls Try.prog 9 #[.int .i64 n, .slice a nl cl, .agg #[.int .i64 at', .int .u64 x]] w fun e w' => e = .returned (.bool true) ∧ Below w.heap.size w w' := by
  have hxe : (x == 0) = false := by simpa using hx2
  have d1 : decide (100 < nl) = false := by simp; omega
  have d1i : decide ((100 : Int) < (nl : Int)) = false := by simp; omega
  have d2 : decide (n < 1) = false := by simp; omega
  have d2i : decide ((n : Int) < 1) = false := by simp; omega
  have d3 : decide (16 < n) = false := by simp; omega
  have d3i : decide ((16 : Int) < (n : Int)) = false := by simp; omega
  obtain ⟨w0, hw0⟩ : ∃ w0, w0 = w.alloc (.cells #[.int .i64 at', .int .u64 x] 62) := ⟨_, rfl⟩
  have hbs : Blk w0 w.heap.size 62 #[.int .i64 at', .int .u64 x] := hw0 ▸ Blk.new w _ _
  have hbel0 : Below w.heap.size w w0 := by
    rw [hw0]; exact ((Ch.refl (fun _ => False) w).alloc _).below (Nat.le_refl _) (fun _ h => h.elim)
  have hx' : InSteps w0 a nl xs := by
    have := hx.below hbel0 (Nat.le_refl nl)
    rwa [List.take_of_length_le (by rw [hx.1]; exact Nat.le_refl _)] at this
  have Hw0 := hid hw0
  clear hw0 hx
  go_enter Try.func9, Try.ntmps9
  go_wp2_with fail
  rw [← Hw0.out]
  refine (run_any n hn1 (by omega) a nl cl xs w0 hx' (by omega)).mono ?_
  rintro e w1 ⟨p, cb, lv, rfl, hbank, hb1⟩
  obtain ⟨s, hs⟩ : ∃ s, s = runS n xs := ⟨_, rfl⟩
  have hrep : Replays n s := hs ▸ replays_run n xs
  have hlen := runS_len n xs
  rw [← hs] at hbank hlen
  clear hs
  have hlg : s.lg.length ≤ 200 := by have := hx'.1; omega
  clear hx' hlen
  go_wp2_with fail
  refine (log_any w0.heap.size p cb lv s 0 w1 hbank (by omega)).mono ?_
  rintro e w2 ⟨gl, rfl, hlog, hc2, hgl⟩
  have hcut : cutAt 0 s.lg.length = 0 := by simp [cutAt]
  rw [hcut, List.drop_zero] at hlog ⊢
  clear hcut hbank
  have hbel2 := (hbel0.trans (hb1.mono hbel0.size)).trans (hc2.below (Nat.le_trans hbel0.size hb1.size) (fun _ h => h.elim))
  have hb01 : Below w0.heap.size w0 w2 := hb1.trans (hc2.below hb1.size (fun _ h => h.elim))
  have hbs2 : Blk w2 w.heap.size 62 #[.int .i64 at', .int .u64 x] := (hb01.block _ hbs.lt).trans hbs
  clear hbs
  go_wp2_with fail
  refine (copyAccs_any _ _ _ s.lg w2 (blk_accs hlog) (by omega)).mono ?_
  rintro e w3 ⟨v, rfl, hown, hc3⟩
  have hbel3 : Below w.heap.size w w3 := hbel2.trans (hc3.below hbel2.size (fun _ h => h.elim))
  have hbs3 := hc3.blk hbs2 id
  clear hlog hbs2
  by_cases h0 : s.lg.length = 0
  · obtain ⟨A, cap, hv, _⟩ := own_slice hown
    subst hv
    rw [h0]
    go_wp2_with fail
    go_ret
    exact ⟨rfl, hbel3⟩
  · obtain ⟨g, cap, hv, hcap1, hcap2, hg, hgw⟩ := own_form hown (by omega)
    subst hv
    obtain ⟨k, hkl, hk, htm0, htm1⟩ := tm at' s.lg.length (by omega)
    obtain ⟨y, hy⟩ : ∃ y, s.lg[k]? = some y := ⟨_, List.getElem?_eq_getElem hkl⟩
    have f0 := hbs3.cell 0
    have f1 := hbs3.cell 1
    simp only [List.getElem?_toArray, List.getElem?_cons_zero, List.getElem?_cons_succ] at f0 f1
    obtain ⟨m, hm⟩ : ∃ m, m = s.lg.length := ⟨_, rfl⟩
    rw [← hm] at hown hkl hk htm0 htm1 h0 hlg ⊢
    have hz : ((m : Int) == 0) = false := by simpa using h0
    have cO : w3.cell? ⟨g, k * 6 + 3, none⟩ = some (.int .u64 y.o) := by
      rw [World.ownsRow.cellAt hown _ (by omega)]
      exact logCells_get s.lg k y hy 3 _ rfl
    have fr := World.ownsRow.frozenAt hown (k * 6 + 3)
    have hsp := repF_spoilt s.lg _ _ _ _ hrep k y hy (bits .xor .u64 y.o x) (bits_xor_ne _ _ hx0 hx1 hx2)
    have hst := (World.ownsRow.stored hown (k * 6 + 3) (.int .u64 (bits .xor .u64 y.o x))).1
    rw [logCells_seen s.lg k y hy] at hst
    have hin := accs_of_own hst
    rw [Nat.zero_add] at hsp
    have Hm := hid hm
    have Hsp := hid hsp
    have Hin := hid hin
    clear hsp hin hst hrep hy hm hown
    go_wp2_with fail
    refine Mix.wp_region_mix (fun _ => True) (fun i => ([0, 0, 0, 0, 0, 0, 0, 0, 0, 0, 2] : List Nat).getD i 0) [0, 1, 2, 3, 4, 5, 6, 7, 8, 9, 10] (by kernel_rfl) (by kernel_rfl) ?_
    repeat (refine Mix.mix_q (by simp only [List.getElem?_toArray, List.getElem?_cons_zero, List.getElem?_cons_succ]; exact rfl) rfl ?_; go_big_quiet_step (fail); refine wpQuiet_nil ?_)
    refine Mix.mix_e (by simp only [List.getElem?_toArray, List.getElem?_cons_zero, List.getElem?_cons_succ]; exact rfl) rfl fun W hW => ?_
    obtain ⟨n1, rfl⟩ := hW
    go_wp2_with fail
    intro n2
    go_wp2_with fail
    refine (replay_ok n hn1 (by omega) _ m cap (s.lg.set k (y.seen (bits .xor .u64 y.o x))) (((w3.drewN n1).setCell ⟨g, k * 6 + 3, none⟩ (.int .u64 (bits .xor .u64 y.o x))).drewN n2) (Hin.out.ch (fp := fun _ => False) (Ch.same rfl rfl rfl rfl) (fun _ _ _ => id)) (by omega)).mono ?_
    rintro e w4 ⟨hc4, hans⟩
    rw [Hsp.out] at hans
    have hans' : e = .returned (.tuple #[.slice none 0 0, .int .i64 (k : Int), .int .i64 25]) := hans
    subst hans'
    go_wp2_with fail
    go_ret
    have hbel4 : Below w.heap.size w (((w3.drewN n1).setCell ⟨g, k * 6 + 3, none⟩ (.int .u64 (bits .xor .u64 y.o x))).drewN n2) :=
      hbel3.trans (((((Ch.refl (fun i => i = g) w3).drewN n1).set (fun _ => rfl) _).drewN n2).below hbel3.size (fun i hi => by have := hbel2.size; omega))
    exact ⟨by first | rfl | simp, hbel4.trans (hc4.below hbel4.size (fun _ h => h.elim))⟩

def spotKs : List (Option IntKind) := [some .i64, some .u64]
set_option maxRecDepth 100000 in
set_option maxHeartbeats 1000000 in
theorem spoilt_walk (n : Int) (a : Option Addr) (nl cl : Nat) (ls : List (List Value)) (z : List Value) (w : World) (hn : (Lit.int .i64 n).wf = true) (hx : InRows stepKs w a nl ls) (hz : Fits spotKs z) :
    Calls Try.prog 9 #[.int .i64 n, .slice a nl cl, .agg z.toArray] w fun e w' => e = .returned (.bool true) ∧ Below w.heap.size w w' := by
  obtain ⟨xs, hx⟩ := in_steps hx
  obtain ⟨at', x, rfl, hx0, hx1⟩ : ∃ at' x, z = [.int .i64 at', .int .u64 x] ∧ 0 ≤ x ∧ x < 18446744073709551616 := by
    obtain ⟨hl, hf⟩ := hz
    obtain ⟨v0, e0, n0, rfl, _⟩ := hf 0 _ rfl
    obtain ⟨v1, e1, n1, rfl, w1⟩ := hf 1 _ rfl
    refine ⟨n0, n1, ?_, wf_u64 w1⟩
    match z, hl with
    | [a, b], _ => simp at e0 e1; simp [e0, e1]
  have hbel0 : ∀ o, Below w.heap.size w (w.alloc o) := fun o => ((Ch.refl (fun _ => False) w).alloc _).below (Nat.le_refl _) (fun _ h => h.elim)
  by_cases h1 : 100 < nl
  · have d1 : decide (100 < nl) = true := by simp; omega
    have d1i : decide ((100 : Int) < (nl : Int)) = true := by simp; omega
    go_enter Try.func9, Try.ntmps9
    go_wp2_with fail
    all_goals (go_ret; exact ⟨rfl, hbel0 _⟩)
  · have d1 : decide (100 < nl) = false := by simp; omega
    have d1i : decide ((100 : Int) < (nl : Int)) = false := by simp; omega
    by_cases h2 : n < 1
    · have d2 : decide (n < 1) = true := by simp; omega
      go_enter Try.func9, Try.ntmps9
      go_wp2_with fail
      all_goals (go_ret; exact ⟨rfl, hbel0 _⟩)
    · have d2 : decide (n < 1) = false := by simp; omega
      by_cases h3 : 16 < n
      · have d3 : decide (16 < n) = true := by simp; omega
        go_enter Try.func9, Try.ntmps9
        go_wp2_with fail
        all_goals (go_ret; exact ⟨rfl, hbel0 _⟩)
      · have d3 : decide (16 < n) = false := by simp; omega
        by_cases h4 : x = 0
        · subst h4
          go_enter Try.func9, Try.ntmps9
          go_wp2_with fail
          all_goals (go_ret; exact ⟨rfl, hbel0 _⟩)
        · obtain ⟨n, rfl⟩ := Int.eq_ofNat_of_zero_le (by omega : 0 ≤ n)
          exact spoilt_main n (by omega) (by omega) a nl cl xs at' x hx0 hx1 h4 w hx (by omega)
end Go.Proofs.Ytnoaeeiekblpbaa
