/- CellReplays: the walk. -/
import Derived.Test.YtnoaeeiekblpbaaRefRep
namespace Go.Proofs.Ytnoaeeiekblpbaa
open Go.RowKit
set_option linter.unusedVariables false

def accKs : List (Option IntKind) := [some .i64, some .i64, some .u8, some .u64, some .u64, none]
theorem acc_of_fits {vs : List Value} (h : Fits accKs vs) : ∃ x : Acc, vs = x.cells := by
  obtain ⟨hl, hf⟩ := h
  obtain ⟨v0, e0, t, rfl, ht⟩ := hf 0 _ rfl
  obtain ⟨v1, e1, c, rfl, hc⟩ := hf 1 _ rfl
  obtain ⟨v2, e2, k, rfl, hk⟩ := hf 2 _ rfl
  obtain ⟨v3, e3, o, rfl, ho⟩ := hf 3 _ rfl
  obtain ⟨v4, e4, n, rfl, hn⟩ := hf 4 _ rfl
  obtain ⟨v5, e5, s, rfl⟩ := hf 5 _ rfl
  refine ⟨⟨t, c, k, o, n, s⟩, ?_⟩
  match vs, hl, e0, e1, e2, e3, e4, e5 with
  | [a0, a1, a2, a3, a4, a5], _, e0, e1, e2, e3, e4, e5 =>
    simp at e0 e1 e2 e3 e4 e5
    subst e0 e1 e2 e3 e4 e5
    rfl

theorem in_accs {w : World} {a : Option Addr} {n : Nat} {ls : List (List Value)} (h : InRows accKs w a n ls) : ∃ lg, InAccs w a n lg := by
  obtain ⟨hl, hf, hc⟩ := h
  obtain ⟨xs, hxl, hx⟩ := exists_list (R := fun i (x : Acc) => ls[i]? = some x.cells) n (fun i hi => by
    have h0 : ls[i]? = some (ls[i]'(by omega)) := List.getElem?_eq_getElem (by omega)
    obtain ⟨x, hx⟩ := acc_of_fits (hf _ (List.getElem_mem (by omega : i < ls.length)))
    exact ⟨x, by rw [h0, hx]⟩)
  refine ⟨xs, hxl, fun h0 => ?_⟩
  obtain ⟨b, off, rfl, hb, hcell⟩ := hc h0
  exact ⟨b, off, rfl, hb, fun i j x v hi hj => hcell i j _ v (hx i x hi) hj⟩

theorem repF_len : ∀ (lg : List Acc) (vs : List Int) (k : Nat), (repF vs k lg).2 ≤ k + lg.length
  | [], vs, k => Nat.le_refl _
  | x :: l, vs, k => by
    unfold repF
    split
    · have := repF_len l (vs.set x.c.toNat x.n) (k + 1)
      simp only [List.length_cons]
      omega
    · simp

set_option maxHeartbeats 1000000 in
theorem reps_walk (n : Int) (a : Option Addr) (nl cl : Nat) (ls : List (List Value)) (w : World) (hn : (Lit.int .i64 n).wf = true) (hx : InRows accKs w a nl ls) :
    Calls Try.prog 3 #[.int .i64 n, .slice a nl cl] w fun e w' => e = .returned (.bool true) ∧ Below w.heap.size w w' := by
  obtain ⟨lg, hin⟩ := in_accs hx
  clear hx
  by_cases h1 : 200 < nl
  · go_enter Try.func3, Try.ntmps3
    go_wp2_with fail
    all_goals (go_ret; exact ⟨rfl, Below.refl _ _⟩)
  · have h1' : nl ≤ 200 := by omega
    have d1 : decide (200 < nl) = false := by simp; omega
    have d1i : decide ((200 : Int) < (nl : Int)) = false := by simp; omega
    by_cases h2 : n < 1 ∨ 4096 < n
    · by_cases h3 : 64 < n
      · have h4 : 4096 < n := by omega
        go_enter Try.func3, Try.ntmps3
        go_wp2_with fail
        refine (replay_bad n h2 _ _ _ _).mono ?_
        rintro e w1 ⟨rfl, rfl⟩
        go_wp2_with fail
        refine (rreplay_bad n h2 _ _ _ _).mono ?_
        rintro e w2 ⟨rfl, rfl⟩
        go_wp2_with fail
        refine (eqWords_any none none 0 0 0 0 [] [] _ ⟨rfl, fun h => absurd h (Nat.lt_irrefl _)⟩ ⟨rfl, fun h => absurd h (Nat.lt_irrefl _)⟩ (by omega)).mono ?_
        rintro e w3 ⟨rfl, d, rfl⟩
        go_wp2_with fail
        go_ret
        exact ⟨rfl, ((Ch.refl (fun _ => False) w).drewN d).below (Nat.le_refl _) (fun _ h => h.elim)⟩
      · go_enter Try.func3, Try.ntmps3
        go_wp2_with fail
        refine (replay_bad n h2 _ _ _ _).mono ?_
        rintro e w1 ⟨rfl, rfl⟩
        go_wp2_with fail
        refine (rreplay_bad n h2 _ _ _ _).mono ?_
        rintro e w2 ⟨rfl, rfl⟩
        go_wp2_with fail
        refine (eqWords_any none none 0 0 0 0 [] [] _ ⟨rfl, fun h => absurd h (Nat.lt_irrefl _)⟩ ⟨rfl, fun h => absurd h (Nat.lt_irrefl _)⟩ (by omega)).mono ?_
        rintro e w3 ⟨rfl, d, rfl⟩
        go_wp2_with fail
        go_ret
        exact ⟨rfl, ((Ch.refl (fun _ => False) w).drewN d).below (Nat.le_refl _) (fun _ h => h.elim)⟩
    · obtain ⟨n, rfl⟩ := Int.eq_ofNat_of_zero_le (by omega : 0 ≤ n)
      by_cases h3 : 64 < n
      · have h4 : n ≤ 4096 := by omega
        have d2 : decide (64 < n) = true := by simp; omega
        have d3 : decide (n ≤ 4096) = true := by simp; omega
        have d2i : decide ((64 : Int) < (n : Int)) = true := by simp; omega
        have d3i : decide ((n : Int) ≤ 4096) = true := by simp; omega
        go_enter Try.func3, Try.ntmps3
        go_wp2_with fail
        all_goals (go_ret; exact ⟨rfl, Below.refl _ _⟩)
      · obtain ⟨rp, hrp⟩ : ∃ rp, rp = repF (List.replicate n 0) 0 lg := ⟨_, rfl⟩
        have hrl : rp.2 < 1000000 := by
          have := repF_len lg (List.replicate n 0) 0
          rw [← hrp, hin.1] at this
          omega
        have A := replay_ok n (by omega) (by omega) a nl cl lg w hin (by omega)
        have B := fun w' (hc : Ch (fun _ => False) w w') => rreplay_ok n (by omega) (by omega) a nl cl lg w' (hin.ch hc (fun _ _ _ => id)) (by omega)
        rw [← hrp] at A
        simp only [← hrp] at B
        clear hrp hin
        obtain ⟨r1, r2⟩ := rp
        have d2 : decide (64 < n) = false := by simp; omega
        have d2i : decide ((64 : Int) < (n : Int)) = false := by simp; omega
        cases r1 with
        | none =>
          go_enter Try.func3, Try.ntmps3
          go_wp2_with fail
          refine A.mono ?_
          rintro e w1 ⟨hc1, rfl⟩
          go_wp2_with fail
          refine (B w1 hc1).mono ?_
          rintro e w2 ⟨hc2, rfl⟩
          go_wp2_with fail
          refine (eqWords_any none none 0 0 0 0 [] [] _ ⟨rfl, fun h => absurd h (Nat.lt_irrefl _)⟩ ⟨rfl, fun h => absurd h (Nat.lt_irrefl _)⟩ (by omega)).mono ?_
          rintro e w3 ⟨rfl, d, rfl⟩
          go_wp2_with fail
          go_ret
          exact ⟨rfl, (((hc1.trans hc2 (fun _ _ h => h)).drewN d)).below (Nat.le_refl _) (fun _ h => h.elim)⟩
        | some vs =>
          go_enter Try.func3, Try.ntmps3
          go_wp2_with fail
          refine A.mono ?_
          rintro e w1 ⟨hc1, hvn, b1, rfl, hb1⟩
          go_wp2_with fail
          refine (B w1 hc1).mono ?_
          rintro e w2 ⟨hc2, hvn2, b2, rfl, hb2⟩
          have hb1' := hc2.blk hb1 id
          have Hvn := hid hvn
          clear hvn hvn2
          go_wp2_with fail
          refine (eqWords_any _ _ n n n n vs vs _ ⟨Hvn.out, fun _ => ⟨b1, 0, rfl, fun i hi => by rw [Nat.zero_add]; exact (hb1'.cell i).trans (u64s_getD _ _ (by rw [Hvn.out]; exact hi))⟩⟩ ⟨Hvn.out, fun _ => ⟨b2, 0, rfl, fun i hi => by rw [Nat.zero_add]; exact (hb2.cell i).trans (u64s_getD _ _ (by rw [Hvn.out]; exact hi))⟩⟩ (by omega)).mono ?_
          rintro e w3 ⟨rfl, d, rfl⟩
          have hdec : decide (vs = vs) = true := by simp
          go_wp2_with fail
          go_ret
          exact ⟨by first | rfl | simp, (((hc1.trans hc2 (fun _ _ h => h)).drewN d)).below (Nat.le_refl _) (fun _ h => h.elim)⟩
end Go.Proofs.Ytnoaeeiekblpbaa
