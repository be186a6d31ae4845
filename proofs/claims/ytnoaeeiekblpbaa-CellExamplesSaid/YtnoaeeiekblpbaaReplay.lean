/- possible, Replay. -/
import Derived.Test.YtnoaeeiekblpbaaConsPlain
namespace Go.Proofs.Ytnoaeeiekblpbaa
open Go.RowKit
set_option linter.unusedVariables false

def Acc.agg (x : Acc) : Value := .agg #[.int .i64 x.t, .int .i64 x.c, .int .u8 x.k, .int .u64 x.o, .int .u64 x.n, .bool x.s]

/-- Is an access possible for a cell that holds v? -/
def possB (x : Acc) (v : Int) : Bool :=
  if x.o = v then
    (if x.s = true then x.k == 5
     else if x.k = 1 then x.n == x.o
     else if x.k = 5 then x.n == x.o
     else x.k == 2 || x.k == 3 || x.k == 4)
  else false

set_option maxHeartbeats 1000000 in
theorem possible_any (x : Acc) (v : Int) (w : World) : Calls Try.prog 33 #[x.agg, .int .u64 v] w fun e w' => e = .returned (.bool (possB x v)) ∧ Ch (fun _ => False) w w' := by
  obtain ⟨t, c, k, o, n, s⟩ := x
  unfold Acc.agg possB
  by_cases h1 : o = v
  · subst h1
    have h1' : (o != o) = false := by simp
    cases s
    · by_cases h2 : k = 1
      · subst h2
        go_enter Try.func33, Try.ntmps33
        go_wp2
        all_goals (go_ret; exact ⟨by simp, (Ch.refl _ w).alloc _⟩)
      · have h2' : (k == 1) = false := by simpa using h2
        by_cases h3 : k = 5
        · subst h3
          go_enter Try.func33, Try.ntmps33
          go_wp2
          all_goals (go_ret; exact ⟨by simp, (Ch.refl _ w).alloc _⟩)
        · have h3' : (k == 5) = false := by simpa using h3
          by_cases h4 : k = 2
          · subst h4
            go_enter Try.func33, Try.ntmps33
            go_wp2
            all_goals (go_ret; exact ⟨by simp, (Ch.refl _ w).alloc _⟩)
          · have h4' : (k == 2) = false := by simpa using h4
            by_cases h5 : k = 3
            · subst h5
              go_enter Try.func33, Try.ntmps33
              go_wp2
              all_goals (go_ret; exact ⟨by simp, (Ch.refl _ w).alloc _⟩)
            · have h5' : (k == 3) = false := by simpa using h5
              by_cases h6 : k = 4
              · subst h6
                go_enter Try.func33, Try.ntmps33
                go_wp2
                all_goals (go_ret; exact ⟨by simp, (Ch.refl _ w).alloc _⟩)
              · have h6' : (k == 4) = false := by simpa using h6
                go_enter Try.func33, Try.ntmps33
                go_wp2
                all_goals (go_ret; exact ⟨by simp [h2, h3, h4, h5, h6], (Ch.refl _ w).alloc _⟩)
    · by_cases h3 : k = 5
      · subst h3
        go_enter Try.func33, Try.ntmps33
        go_wp2
        all_goals (go_ret; exact ⟨by simp, (Ch.refl _ w).alloc _⟩)
      · have h3' : (k != 5) = true := by simpa using h3
        go_enter Try.func33, Try.ntmps33
        go_wp2
        all_goals (go_ret; exact ⟨by simp [h3], (Ch.refl _ w).alloc _⟩)
  · have h1' : (o != v) = true := by simpa using h1
    go_enter Try.func33, Try.ntmps33
    go_wp2
    all_goals (go_ret; exact ⟨by simp [h1], (Ch.refl _ w).alloc _⟩)
/-- The accesses that came in. -/
def InAccs (w : World) (a : Option Addr) (n : Nat) (lg : List Acc) : Prop :=
  lg.length = n ∧ (0 < n → ∃ b off, a = some ⟨b, off, none⟩ ∧ b < w.heap.size ∧ ∀ (i j : Nat) x v, lg[i]? = some x → x.cells[j]? = some v → w.cell? ⟨b, off + (i * 6 + j), none⟩ = some v)
theorem InAccs.ch {w w' : World} {a : Option Addr} {n : Nat} {lg : List Acc} {fp : Nat → Prop} (h : InAccs w a n lg) (hc : Ch fp w w') (hf : ∀ b off, a = some ⟨b, off, none⟩ → ¬ fp b) : InAccs w' a n lg :=
  ⟨h.1, fun h0 => by
    obtain ⟨b, off, rfl, hb, hcell⟩ := h.2 h0
    exact ⟨b, off, rfl, Nat.lt_of_lt_of_le hb hc.size, fun i j x v hi hj => (hc.cell (p := ⟨b, off + (i * 6 + j), none⟩) hb (hf b off rfl)).trans (hcell i j x v hi hj)⟩⟩
theorem blk_accs {w : World} {b : Nat} {lg : List Acc} (h : Blk w b 49 (logCells lg).toArray) : InAccs w (some ⟨b, 0, none⟩) lg.length lg :=
  ⟨rfl, fun _ => ⟨b, 0, rfl, h.lt, fun i j x v hi hj => by rw [Nat.zero_add]; exact (h.cell _).trans (by simpa using logCells_get lg i x hi j v hj)⟩⟩

def okAt (vs : List Int) (x : Acc) : Bool := decide (0 ≤ x.t ∧ x.t < 16 ∧ 0 ≤ x.c ∧ x.c < vs.length) && possB x (lk vs x.c.toNat)
def repF (vs : List Int) (k : Nat) : List Acc → Option (List Int) × Nat
  | [] => (some vs, k)
  | x :: l => if okAt vs x = true then repF (vs.set x.c.toNat x.n) (k + 1) l else (none, k)

/-- What Replay hands back. -/
def RepAns (n : Nat) (w w' : World) (r : Option (List Int) × Nat) (e : Ending) : Prop :=
  Ch (fun _ => False) w w' ∧ match r.1 with
    | some vs => vs.length = n ∧ ∃ b, e = .returned (.tuple #[.slice (some ⟨b, 0, none⟩) n n, .int .i64 r.2, .int .i64 0]) ∧ Blk w' b 34 (u64s vs)
    | none => e = .returned (.tuple #[.slice none 0 0, .int .i64 r.2, .int .i64 25])

set_option maxHeartbeats 400000 in
theorem replay_bad (n : Int) (hn : n < 1 ∨ 4096 < n) (a : Option Addr) (m c : Nat) (w : World) : Calls Try.prog 12 #[.int .i64 n, .slice a m c] w fun e w' => e = .returned (.tuple #[.slice none 0 0, .int .i64 0, .int .i64 2]) ∧ w = w' := by
  rcases hn with h | h
  · go_enter Try.func12, Try.ntmps12
    go_wp2_with fail
    go_ret3
    exact ⟨rfl, rfl⟩
  · have h' : ¬ n < 1 := by omega
    go_enter Try.func12, Try.ntmps12
    go_wp2_with fail
    go_ret3
    exact ⟨rfl, rfl⟩

set_option maxRecDepth 100000 in
set_option maxHeartbeats 2000000 in
theorem replay_ok (n : Nat) (h1 : 1 ≤ n) (h2 : n ≤ 4096) (a : Option Addr) (m c : Nat) (lg : List Acc) (w : World) (hin : InAccs w a m lg) (hm : m < 1000000) :
    Calls Try.prog 12 #[.int .i64 n, .slice a m c] w fun e w' => RepAns n w w' (repF (List.replicate n 0) 0 lg) e := by
  have hmk := run_make_u64 (P := Try.prog) 23 34 default _ Try.underlying23 Try.infoU64 rfl n (by omega)
  obtain ⟨rp, hrp⟩ : ∃ rp, rp = repF (List.replicate n 0) 0 lg := ⟨_, rfl⟩
  rw [← hrp]
  have Hrp := hid hrp
  clear hrp
  go_enter Try.func12, Try.ntmps12
  go_wp2_with fail
  go_loopw [20] (fun i wr => ∃ k : Nat, k ≤ m ∧ i = .int .i64 k ∧ ∃ vs : List Int, vs.length = n ∧ repF vs k (lg.drop k) = rp ∧ Blk wr w.heap.size 34 (u64s vs) ∧ Ch (fun _ => False) w wr) (fun i _ => m - (intOf i).toNat)
  case atStart => exact ⟨0, Nat.zero_le _, rfl, List.replicate n 0, by simp, by rw [Hrp.out]; rfl, Blk.new w _ _, (Ch.refl _ w).alloc _⟩
  case round =>
    obtain ⟨k, hk, rfl, vs, hvn, hrep, hb, hch⟩ := hrel
    by_cases hlt : k < m
    · obtain ⟨b, off, rfl, hbl, hcell⟩ := hin.2 (by omega)
      obtain ⟨⟨xt, xc, xk, xo, xn, xs⟩, hxk⟩ : ∃ x, lg[k]? = some x := ⟨_, List.getElem?_eq_getElem (by have := hin.1; omega)⟩
      have c0 : wr.cell? ⟨b, off + k * 6, none⟩ = some (.int .i64 xt) := (hch.cell (p := ⟨b, off + k * 6, none⟩) hbl id).trans (hcell k 0 _ _ hxk rfl)
      have c1 : wr.cell? ⟨b, off + k * 6 + 1, none⟩ = some (.int .i64 xc) := (hch.cell (p := ⟨b, off + k * 6 + 1, none⟩) hbl id).trans (hcell k 1 _ _ hxk rfl)
      have c2 : wr.cell? ⟨b, off + k * 6 + 2, none⟩ = some (.int .u8 xk) := (hch.cell (p := ⟨b, off + k * 6 + 2, none⟩) hbl id).trans (hcell k 2 _ _ hxk rfl)
      have c3 : wr.cell? ⟨b, off + k * 6 + 3, none⟩ = some (.int .u64 xo) := (hch.cell (p := ⟨b, off + k * 6 + 3, none⟩) hbl id).trans (hcell k 3 _ _ hxk rfl)
      have c4 : wr.cell? ⟨b, off + k * 6 + 4, none⟩ = some (.int .u64 xn) := (hch.cell (p := ⟨b, off + k * 6 + 4, none⟩) hbl id).trans (hcell k 4 _ _ hxk rfl)
      have c5 : wr.cell? ⟨b, off + k * 6 + 5, none⟩ = some (.bool xs) := (hch.cell (p := ⟨b, off + k * 6 + 5, none⟩) hbl id).trans (hcell k 5 _ _ hxk rfl)
      obtain ⟨x, hx⟩ : ∃ x : Acc, x = ⟨xt, xc, xk, xo, xn, xs⟩ := ⟨_, rfl⟩
      rw [← hx] at hxk
      have hdrop : lg.drop k = x :: lg.drop (k + 1) := by
        have hkl := (List.getElem?_eq_some_iff.1 hxk)
        rw [List.drop_eq_getElem_cons hkl.1, hkl.2]
      have hrep' : (if okAt vs x = true then repF (vs.set x.c.toNat x.n) (k + 1) (lg.drop (k + 1)) else (none, k)) = rp := by rw [← hrep, hdrop]; rfl
      have Hrep := hid hrep'
      have Hvn := hid hvn
      have hb2 : ∀ o, Blk (wr.alloc o) w.heap.size 34 (u64s vs) := fun o => hb.alloc o
      have Hx := hid hx
      clear hrep hdrop hrep' hvn hcell hxk hin hx
      by_cases ht0 : xt < 0
      · have hno : okAt vs x = false := by rw [Hx.out]; simp [okAt]; intros; omega
        have Hno := hid hno
        clear hno
        go_wp2_with fail
        refine Mix.wp_region_mix (fun _ => True) (fun i => ([0, 0, 0, 0, 0, 0, 0, 0, 0, 0, 0, 0, 0, 0, 0, 0, 0, 0, 0, 0, 0, 0, 0, 0, 0, 0, 2, 0, 0] : List Nat).getD i 0) [0, 1, 2, 3, 4, 5, 6, 7, 8, 9, 10, 11, 12, 13, 14, 15, 16, 17, 18, 19, 20, 21, 22, 23, 24, 25, 26, 27, 28] (by kernel_rfl) (by kernel_rfl) ?_
        repeat (refine Mix.mix_q (by simp only [List.getElem?_toArray, List.getElem?_cons_zero, List.getElem?_cons_succ]; exact rfl) rfl ?_; go_big_quiet_step (fail); refine wpQuiet_nil ?_)
        refine Mix.mix_e (by simp only [List.getElem?_toArray, List.getElem?_cons_zero, List.getElem?_cons_succ]; exact rfl) rfl fun W hW => ?_
        obtain ⟨n1, rfl⟩ := hW
        go_wp2_with fail
        repeat (refine Mix.mix_q (by simp only [List.getElem?_toArray, List.getElem?_cons_zero, List.getElem?_cons_succ]; exact rfl) rfl ?_; go_big_quiet_step (fail); refine wpQuiet_nil ?_)
        intro n2
        go_wp2_with fail
        go_ret3
        have := Hrep.out
        rw [if_neg (by rw [Hno.out]; decide)] at this
        refine ⟨((hch.alloc _).drewN _).drewN _, ?_⟩
        rw [← this]
        rfl
      · have ht0' : 0 ≤ xt := by omega
        have dt0 : decide (xt < 0) = false := by simpa using ht0'
        by_cases ht1 : 16 ≤ xt
        · have hno : okAt vs x = false := by rw [Hx.out]; simp [okAt]; intros; omega
          have Hno := hid hno
          clear hno
          go_wp2_with fail
          refine Mix.wp_region_mix (fun _ => True) (fun i => ([0, 0, 0, 0, 0, 0, 0, 0, 0, 0, 0, 0, 0, 0, 0, 0, 0, 0, 0, 0, 0, 0, 0, 0, 0, 0, 2, 0, 0] : List Nat).getD i 0) [0, 1, 2, 3, 4, 5, 6, 7, 8, 9, 10, 11, 12, 13, 14, 15, 16, 17, 18, 19, 20, 21, 22, 23, 24, 25, 26, 27, 28] (by kernel_rfl) (by kernel_rfl) ?_
          repeat (refine Mix.mix_q (by simp only [List.getElem?_toArray, List.getElem?_cons_zero, List.getElem?_cons_succ]; exact rfl) rfl ?_; go_big_quiet_step (fail); refine wpQuiet_nil ?_)
          refine Mix.mix_e (by simp only [List.getElem?_toArray, List.getElem?_cons_zero, List.getElem?_cons_succ]; exact rfl) rfl fun W hW => ?_
          obtain ⟨n1, rfl⟩ := hW
          go_wp2_with fail
          repeat (refine Mix.mix_q (by simp only [List.getElem?_toArray, List.getElem?_cons_zero, List.getElem?_cons_succ]; exact rfl) rfl ?_; go_big_quiet_step (fail); refine wpQuiet_nil ?_)
          intro n2
          go_wp2_with fail
          go_ret3
          have := Hrep.out
          rw [if_neg (by rw [Hno.out]; decide)] at this
          refine ⟨((hch.alloc _).drewN _).drewN _, ?_⟩
          rw [← this]
          rfl
        · have ht1' : xt < 16 := by omega
          have dt1 : decide (16 ≤ xt) = false := by simpa using ht1'
          by_cases hc0 : xc < 0
          · have hno : okAt vs x = false := by rw [Hx.out]; simp [okAt]; intros; omega
            have Hno := hid hno
            clear hno
            go_wp2_with fail
            refine Mix.wp_region_mix (fun _ => True) (fun i => ([0, 0, 0, 0, 0, 0, 0, 0, 0, 0, 0, 0, 0, 0, 0, 0, 0, 0, 0, 0, 0, 0, 0, 0, 0, 0, 2, 0, 0] : List Nat).getD i 0) [0, 1, 2, 3, 4, 5, 6, 7, 8, 9, 10, 11, 12, 13, 14, 15, 16, 17, 18, 19, 20, 21, 22, 23, 24, 25, 26, 27, 28] (by kernel_rfl) (by kernel_rfl) ?_
            repeat (refine Mix.mix_q (by simp only [List.getElem?_toArray, List.getElem?_cons_zero, List.getElem?_cons_succ]; exact rfl) rfl ?_; go_big_quiet_step (fail); refine wpQuiet_nil ?_)
            refine Mix.mix_e (by simp only [List.getElem?_toArray, List.getElem?_cons_zero, List.getElem?_cons_succ]; exact rfl) rfl fun W hW => ?_
            obtain ⟨n1, rfl⟩ := hW
            go_wp2_with fail
            repeat (refine Mix.mix_q (by simp only [List.getElem?_toArray, List.getElem?_cons_zero, List.getElem?_cons_succ]; exact rfl) rfl ?_; go_big_quiet_step (fail); refine wpQuiet_nil ?_)
            intro n2
            go_wp2_with fail
            go_ret3
            have := Hrep.out
            rw [if_neg (by rw [Hno.out]; decide)] at this
            refine ⟨((hch.alloc _).drewN _).drewN _, ?_⟩
            rw [← this]
            rfl
          · obtain ⟨cc, rfl⟩ := Int.eq_ofNat_of_zero_le (by omega : 0 ≤ xc)
            have dc0 : decide ((cc : Int) < 0) = false := by simp
            by_cases hc1 : (n : Int) ≤ (cc : Int)
            · have Hvn' := Hvn.out
              have hno : okAt vs x = false := by rw [Hx.out]; simp [okAt]; intros; omega
              have Hno := hid hno
              clear hno
              go_wp2_with fail
              refine Mix.wp_region_mix (fun _ => True) (fun i => ([0, 0, 0, 0, 0, 0, 0, 0, 0, 0, 0, 0, 0, 0, 0, 0, 0, 0, 0, 0, 0, 0, 0, 0, 0, 0, 2, 0, 0] : List Nat).getD i 0) [0, 1, 2, 3, 4, 5, 6, 7, 8, 9, 10, 11, 12, 13, 14, 15, 16, 17, 18, 19, 20, 21, 22, 23, 24, 25, 26, 27, 28] (by kernel_rfl) (by kernel_rfl) ?_
              repeat (refine Mix.mix_q (by simp only [List.getElem?_toArray, List.getElem?_cons_zero, List.getElem?_cons_succ]; exact rfl) rfl ?_; go_big_quiet_step (fail); refine wpQuiet_nil ?_)
              refine Mix.mix_e (by simp only [List.getElem?_toArray, List.getElem?_cons_zero, List.getElem?_cons_succ]; exact rfl) rfl fun W hW => ?_
              obtain ⟨n1, rfl⟩ := hW
              go_wp2_with fail
              repeat (refine Mix.mix_q (by simp only [List.getElem?_toArray, List.getElem?_cons_zero, List.getElem?_cons_succ]; exact rfl) rfl ?_; go_big_quiet_step (fail); refine wpQuiet_nil ?_)
              intro n2
              go_wp2_with fail
              go_ret3
              have := Hrep.out
              rw [if_neg (by rw [Hno.out]; decide)] at this
              refine ⟨((hch.alloc _).drewN _).drewN _, ?_⟩
              rw [← this]
              rfl
            · have hcn : cc < vs.length := by have := Hvn.out; omega
              have dc1 : decide (n ≤ cc) = false := by simp; omega
              have hcn' : cc < n := by omega
              have hoc : ∀ o, (wr.alloc o).cell? ⟨w.heap.size, cc, none⟩ = some (.int .u64 (lk vs cc)) := fun o => (World.cell?_alloc_lt wr o ⟨w.heap.size, cc, none⟩ hb.lt).trans ((hb.cell cc).trans (u64s_getD vs cc hcn))
              by_cases hp : possB ⟨xt, cc, xk, xo, xn, xs⟩ (lk vs cc) = true
              · have hyes : okAt vs x = true := by rw [Hx.out]; simp [okAt, hp]; omega
                have Hyes := hid hyes
                clear hyes
                go_wp2_with fail
                refine Mix.wp_region_mix (fun _ => True) (fun i => ([0, 0, 0, 0, 0, 0, 0, 0, 0, 0, 0, 0, 0, 0, 0, 0, 0, 0, 0, 0, 0, 0, 0, 0, 0, 0, 2, 0, 0] : List Nat).getD i 0) [0, 1, 2, 3, 4, 5, 6, 7, 8, 9, 10, 11, 12, 13, 14, 15, 16, 17, 18, 19, 20, 21, 22, 23, 24, 25, 26, 27, 28] (by kernel_rfl) (by kernel_rfl) ?_
                repeat (refine Mix.mix_q (by simp only [List.getElem?_toArray, List.getElem?_cons_zero, List.getElem?_cons_succ]; exact rfl) rfl ?_; go_big_quiet_step (fail); refine wpQuiet_nil ?_)
                refine Mix.mix_e (by simp only [List.getElem?_toArray, List.getElem?_cons_zero, List.getElem?_cons_succ]; exact rfl) rfl fun W hW => ?_
                obtain ⟨n1, rfl⟩ := hW
                go_wp2_with fail
                refine calls_world fun W hW => ?_
                have cW : Ch (fun _ => False) wr W := by rw [hW]; repeat (first | exact Ch.refl _ _ | refine Ch.drewN ?_ _ | refine Ch.alloc ?_ _)
                have bW : Blk W wr.heap.size 49 #[.int .i64 xt, .int .i64 (cc : Int), .int .u8 xk, .int .u64 xo, .int .u64 xn, .bool xs] := by rw [hW]; exact Blk.push rfl
                clear hW
                refine (possible_any ⟨xt, cc, xk, xo, xn, xs⟩ (lk vs cc) W).mono ?_
                rintro e w2 ⟨rfl, cP⟩
                have cA := cW.trans cP (fun _ _ h => h)
                have b2 := cP.blk bW id
                have f1 := b2.cell 1
                have f4 := b2.cell 4
                simp only [List.getElem?_toArray, List.getElem?_cons_zero, List.getElem?_cons_succ] at f1 f4
                have o2 := cA.blk hb id
                have fo := (o2.cell cc).trans (u64s_getD vs cc hcn)
                have ff := o2.free cc
                clear bW b2
                go_wp2_with fail
                repeat (refine Mix.mix_q (by simp only [List.getElem?_toArray, List.getElem?_cons_zero, List.getElem?_cons_succ]; exact rfl) rfl ?_; go_big_quiet_step (fail); refine wpQuiet_nil ?_)
                intro n2
                go_wp2_with fail
                go_roundw
                case rel =>
                  refine ⟨k + 1, by omega, by go_num, vs.set cc xn, by rw [List.length_set]; exact Hvn.out, ?_, ?_, ?_⟩
                  · have := Hrep.out
                    rw [if_pos Hyes.out, Hx.out] at this
                    exact this
                  · rw [← u64s_set]; exact (o2.drewN n2).put cc _
                  · exact ((hch.trans cA (fun _ _ h => h)).drewN n2).set (fun h => absurd h (Nat.lt_irrefl _)) _
                case measure => simp [intOf]; omega
              · have hp' : possB ⟨xt, cc, xk, xo, xn, xs⟩ (lk vs cc) = false := by simpa using hp
                have hno : okAt vs x = false := by rw [Hx.out]; simp [okAt, hp']
                have Hno := hid hno
                clear hno hp
                go_wp2_with fail
                refine Mix.wp_region_mix (fun _ => True) (fun i => ([0, 0, 0, 0, 0, 0, 0, 0, 0, 0, 0, 0, 0, 0, 0, 0, 0, 0, 0, 0, 0, 0, 0, 0, 0, 0, 2, 0, 0] : List Nat).getD i 0) [0, 1, 2, 3, 4, 5, 6, 7, 8, 9, 10, 11, 12, 13, 14, 15, 16, 17, 18, 19, 20, 21, 22, 23, 24, 25, 26, 27, 28] (by kernel_rfl) (by kernel_rfl) ?_
                repeat (refine Mix.mix_q (by simp only [List.getElem?_toArray, List.getElem?_cons_zero, List.getElem?_cons_succ]; exact rfl) rfl ?_; go_big_quiet_step (fail); refine wpQuiet_nil ?_)
                refine Mix.mix_e (by simp only [List.getElem?_toArray, List.getElem?_cons_zero, List.getElem?_cons_succ]; exact rfl) rfl fun W hW => ?_
                obtain ⟨n1, rfl⟩ := hW
                go_wp2_with fail
                refine calls_world fun W hW => ?_
                have cW : Ch (fun _ => False) wr W := by rw [hW]; repeat (first | exact Ch.refl _ _ | refine Ch.drewN ?_ _ | refine Ch.alloc ?_ _)
                have bW : Blk W wr.heap.size 49 #[.int .i64 xt, .int .i64 (cc : Int), .int .u8 xk, .int .u64 xo, .int .u64 xn, .bool xs] := by rw [hW]; exact Blk.push rfl
                clear hW
                refine (possible_any ⟨xt, cc, xk, xo, xn, xs⟩ (lk vs cc) W).mono ?_
                rintro e w2 ⟨rfl, cP⟩
                have cA := cW.trans cP (fun _ _ h => h)
                have b2 := cP.blk bW id
                have f1 := b2.cell 1
                have f4 := b2.cell 4
                simp only [List.getElem?_toArray, List.getElem?_cons_zero, List.getElem?_cons_succ] at f1 f4
                have o2 := cA.blk hb id
                have fo := (o2.cell cc).trans (u64s_getD vs cc hcn)
                have ff := o2.free cc
                clear bW b2
                go_wp2_with fail
                repeat (refine Mix.mix_q (by simp only [List.getElem?_toArray, List.getElem?_cons_zero, List.getElem?_cons_succ]; exact rfl) rfl ?_; go_big_quiet_step (fail); refine wpQuiet_nil ?_)
                intro n2
                go_wp2_with fail
                go_ret3
                have := Hrep.out
                rw [if_neg (by rw [Hno.out]; decide)] at this
                refine ⟨(hch.trans cA (fun _ _ h => h)).drewN _, ?_⟩
                rw [← this]
                rfl
    · have hkm : k = m := by omega
      subst hkm
      have hrep' : (some vs, k) = rp := by rw [← hrep, List.drop_eq_nil_of_le (by rw [hin.1]; exact Nat.le_refl _)]; rfl
      have Hrep := hid hrep'
      clear hrep hrep'
      go_wp2_with fail
      go_ret3
      refine ⟨hch, ?_⟩
      rw [← Hrep.out]
      exact ⟨hvn, w.heap.size, rfl, hb⟩
end Go.Proofs.Ytnoaeeiekblpbaa
