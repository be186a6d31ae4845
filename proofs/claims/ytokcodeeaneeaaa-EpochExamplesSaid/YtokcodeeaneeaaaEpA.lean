/- The epoch: its memory, Now, Pinned. -/
import Derived.Test.YtokcodeeaneeaaaENewA
import Derived.Test.YtokcodeeaneeaaaSep
import Derived.IntWalk
namespace Go.Proofs.Ytokcodeeaneeaaa
open Go.RowKit
set_option linter.unusedVariables false
set_option linter.unusedSimpArgs false
set_option linter.unusedSectionVars false

/-- An epoch's cells. -/
structure Ed where
  ep : Nat
  sl : Int
  n : Nat
def edCells (p : Nat) (f : Ed) (pins sc : Value) : Array Value := #[.pointer (some ⟨p, 0, none⟩), .int .i64 f.ep, .int .i64 f.sl, .int .i64 f.n, pins, sc]
structure EdOk (s : BS) (f : Ed) : Prop where
  e : f.ep < s.vs.length
  n : f.n ≤ 64
  s : ∀ i : Nat, i < f.n → 0 ≤ f.sl + i ∧ f.sl + i < s.vs.length
/-- An epoch in memory: its bank and its block. -/
structure EpochM (B : Nat) (w : World) (p cb qb : Nat) (lv : Value) (s : BS) (f : Ed) (pins sc : Value) : Prop where
  b : Bank B w p cb lv s.vs s.lg
  fd : Blk w qb 109 (edCells p f pins sc)
  ok : EdOk s f
  bf : B ≤ qb

section
variable {B p cb qb : Nat} {lv : Value} {s : BS} {f : Ed} {pins sc : Value} {w w' : World}
theorem EpochM.ch {fp : Nat → Prop} (h : EpochM B w p cb qb lv s f pins sc) (c : Ch fp w w') (h1 : ¬ fp p) (h2 : ¬ fp cb) (h3 : ∀ k, lv.ownBlock = some k → ¬ fp k) (h4 : ¬ fp qb) : EpochM B w' p cb qb lv s f pins sc :=
  ⟨h.b.ch c h1 h2 h3, c.blk h.fd h4, h.ok, h.bf⟩
theorem EpochM.keep (h : EpochM B w p cb qb lv s f pins sc) (c : Ch (fun _ => False) w w') : EpochM B w' p cb qb lv s f pins sc := h.ch c id id (fun _ _ => id) id
theorem EpochM.drewN (h : EpochM B w p cb qb lv s f pins sc) (n : Nat) : EpochM B (w.drewN n) p cb qb lv s f pins sc := h.keep ((Ch.refl _ w).drewN n)
theorem bank_drew {vs : List Int} {lg : List Acc} (h : Bank B w p cb lv vs lg) (n : Nat) : Bank B (w.drewN n) p cb lv vs lg := h.ch ((Ch.refl (fun _ => False) w).drewN n) id id (fun _ _ => id)
theorem epeek_q (h : Bank B w p cb lv s.vs s.lg) (c : Int) (h0 : 0 ≤ c) (hc : c < s.vs.length) (k : Nat) :
    Calls Try.prog 57 #[.pointer (some ⟨p, 0, none⟩), .int .i64 c] (w.drewN k) fun e w'' => e = .returned (.tuple #[.int .u64 (lk s.vs c.toNat), .bool true]) ∧ ∃ m, w'' = w.drewN m :=
  Calls.quiet_of_same ((peek_ok B p cb lv s c (w.drewN k) (bank_drew h k) h0 hc).mono fun e w' ⟨he, hw⟩ => ⟨he, hw.symm⟩)
theorem epeekn_q (h : Bank B w p cb lv s.vs s.lg) (c : Nat) (hc : c < s.vs.length) (k : Nat) :
    Calls Try.prog 57 #[.pointer (some ⟨p, 0, none⟩), .int .i64 c] (w.drewN k) fun e w'' => e = .returned (.tuple #[.int .u64 (lk s.vs c), .bool true]) ∧ ∃ m, w'' = w.drewN m := by
  have := epeek_q h c (by omega) (by omega) k
  rwa [Int.toNat_natCast] at this
end

section
variable (B p cb qb : Nat) (lv : Value) (s : BS) (f : Ed) (pins sc : Value) (w : World) (h : EpochM B w p cb qb lv s f pins sc)
include h
set_option maxHeartbeats 400000 in
theorem now_any : Calls Try.prog 17 #[.pointer (some ⟨qb, 0, none⟩)] w fun e w' => e = .returned (.int .u64 (lk s.vs f.ep)) ∧ ∃ n, w' = w.drewN n := by
  have g0 : w.cell? ⟨qb, 0, none⟩ = some (.pointer (some ⟨p, 0, none⟩)) := h.fd.cell 0
  have g1 : w.cell? ⟨qb, 1, none⟩ = some (.int .i64 f.ep) := h.fd.cell 1
  have H := hid h
  have h1 := h.ok.e
  clear h
  go_enter Try.func17, Try.ntmps17
  go_wp2_with fail
  go_quiet ((go_at_call 57; exact epeek_q H.out.b f.ep (by omega) (by omega) _))
  go_wp2_with fail
  go_ret
  exact ⟨rfl, _, rfl⟩
theorem now_q (k : Nat) : Calls Try.prog 17 #[.pointer (some ⟨qb, 0, none⟩)] (w.drewN k) fun e w' => e = .returned (.int .u64 (lk s.vs f.ep)) ∧ ∃ n, w' = w.drewN n :=
  Calls.quiet_of (now_any B p cb qb lv s f pins sc (w.drewN k) (h.drewN k))
end

/-- The slots that are announced. -/
def pinL (s : BS) (f : Ed) (m : Nat) : List Int := ((List.range m).filter fun (i : Nat) => lk s.vs (f.sl + (i : Int)).toNat != 0).map fun (i : Nat) => (i : Int)
theorem pinL_succ (s : BS) (f : Ed) (m : Nat) : pinL s f (m + 1) = pinL s f m ++ (if lk s.vs (f.sl + (m : Int)).toNat = 0 then [] else [(m : Int)]) := by
  unfold pinL
  rw [List.range_succ, List.filter_append, List.map_append]
  congr 1
  by_cases h : lk s.vs (f.sl + (m : Int)).toNat = 0
  · rw [if_pos h]; simp [h]
  · rw [if_neg h]; simp [h]
theorem pinL_le (s : BS) (f : Ed) (m : Nat) : (pinL s f m).length ≤ m := by
  unfold pinL
  rw [List.length_map]
  exact Nat.le_trans (List.length_filter_le _ _) (by simp)
/-- A slice of numbers that the call made. -/
def FreshInts (w w' : World) (l : List Int) (e : Ending) : Prop := ∃ v, e = .returned v ∧ w'.ownsRow w.heap.size 3 1 v l.length (l.map (Value.int .i64)) ∧ Ch (fun _ => False) w w'

set_option maxRecDepth 100000 in
set_option maxHeartbeats 1000000 in
theorem pinned_any (B p cb qb : Nat) (lv : Value) (s : BS) (f : Ed) (pins sc : Value) (w : World) (h : EpochM B w p cb qb lv s f pins sc) :
    Calls Try.prog 18 #[.pointer (some ⟨qb, 0, none⟩)] w fun e w' => FreshInts w w' (pinL s f f.n) e := by
  obtain ⟨i0, hi, hz0, hz1, hz2⟩ := info_parts (show (Try.prog.info? 3).map (fun i => (i.zero, i.size, i.bytes)) = some (some (.int .i64 0), 1, 8) by kernel_rfl)
  have g3 : w.cell? ⟨qb, 3, none⟩ = some (.int .i64 f.n) := h.fd.cell 3
  have hn := h.ok.n
  go_enter Try.func18, Try.ntmps18
  go_wp2_with fail
  go_loopw [3, 14] (fun v i wr => ∃ j : Nat, j ≤ f.n ∧ i = .int .i64 j ∧ wr.ownsRow w.heap.size 3 1 v (pinL s f j).length ((pinL s f j).map (Value.int .i64)) ∧ Ch (fun _ => False) w wr) (fun _ i _ => f.n - (intOf i).toNat)
  case atStart => exact ⟨0, by omega, rfl, (by simpa [pinL] using World.ownsRow_nil w w.heap.size 3 1), Ch.refl _ _⟩
  case round =>
    obtain ⟨j, hj, rfl, hown, hch⟩ := hrel
    obtain ⟨A0, cap0, hv0, _⟩ := own_slice hown
    subst hv0
    have hF := h.keep hch
    by_cases hlt : j < f.n
    · have d1 : decide (j < f.n) = true := decide_eq_true hlt
      have d1' : decide ((j : Int) < (f.n : Int)) = true := decide_eq_true (by omega)
      have f0 : wr.cell? ⟨qb, 0, none⟩ = some (.pointer (some ⟨p, 0, none⟩)) := hF.fd.cell 0
      have f2 : wr.cell? ⟨qb, 2, none⟩ = some (.int .i64 f.sl) := hF.fd.cell 2
      obtain ⟨s0, s1⟩ := hF.ok.s j hlt
      have hlen := hF.b.hn
      have hple := pinL_le s f j
      obtain ⟨c, hc⟩ := Int.eq_ofNat_of_zero_le s0
      have hcl : c < s.vs.length := by omega
      have hwr : IntKind.i64.wrap (f.sl + (j : Int)) = (c : Int) := by rw [hc]; exact IntWalk.i64_in _ (by omega)
      have hsu := pinL_succ s f j
      rw [hc, Int.toNat_natCast] at hsu
      have HSU := hid hsu
      have HF := hid hF
      have HC := hid hc
      clear hF s0 s1 hsu hc
      go_wp2_with fail
      go_quiet ((go_at_call 57; exact epeekn_q HF.out.b c hcl _))
      have hch1 : Ch (fun _ => False) w (wr.drewN nq) := hch.drewN nq
      have hown1 : (wr.drewN nq).ownsRow w.heap.size 3 1 (.slice A0 (pinL s f j).length cap0) (pinL s f j).length ((pinL s f j).map (Value.int .i64)) := ((Ch.refl (fun _ => False) wr).drewN nq).own hown (fun _ _ => id)
      clear hown f0 f2 hwr
      obtain ⟨x, hx⟩ : ∃ x, x = lk s.vs c := ⟨_, rfl⟩
      by_cases hx0 : x = 0
      · have HX := hid (hx.symm.trans hx0)
        rw [HX.out]
        clear hx hx0
        go_wp2_with fail
        go_roundw
        case rel => exact ⟨j + 1, by omega, by go_num, by rw [HSU.out, if_pos HX.out, List.append_nil]; exact hown1, hch1⟩
        case measure => simp [intOf]; omega
      · have hxb : (x != 0) = true := by simpa using hx0
        have HX := hid (show ¬ lk s.vs c = 0 by rw [← hx]; exact hx0)
        rw [← hx]
        clear hx hx0
        obtain ⟨m, hm⟩ : ∃ m, m = (pinL s f j).length := ⟨_, rfl⟩
        rw [← hm] at hown1 hple ⊢
        have HM := hid hm
        clear hm
        go_wp2_with (at_builtin; refine wpList_app _ rfl (.tmp 33) (.tmp 35) 41 rfl w.heap.size 3 i0 _ 1 8 Try.underlying41 hi hz0 hz1 hz2 rfl (by decide) _ _ _ rfl (hown1.alloc _) ⟨wr.heap.size, 0, none⟩ 1 1 [.int .i64 j] rfl rfl ?c1 ?c2 (by decide) ?c3 ?c4 ?c5 ?c6)
        case c1 => intro j' u hu; rw [addr_add0]; exact ((Blk.new (wr.drewN nq) 3 #[.int .i64 j]).cell j').trans (by simpa using hu)
        case c2 => intro u hu; simp at hu; subst hu; rfl
        case c3 => unfold maxLen; omega
        case c4 => omega
        case c5 => exact Nat.le_trans hch.size (by simp)
        case c6 =>
          intro v' w' hown' hgrow hfresh
          have hch' : Ch (fun _ => False) w w' := (hch1.alloc _).grown hgrow (fun g hg hlt => (Nat.lt_irrefl _ (Nat.lt_of_lt_of_le hlt (hown1.lt g hg).1)).elim)
          go_wp2_with fail
          go_roundw
          case rel => exact ⟨j + 1, by omega, by go_num, by rw [HSU.out, if_neg HX.out, List.map_append, List.length_append, ← HM.out]; exact hown', hch'⟩
          case measure => simp [intOf]; omega
    · obtain rfl : j = f.n := by omega
      have d1 : decide (f.n < f.n) = false := decide_eq_false (by omega)
      have d1' : decide ((f.n : Int) < (f.n : Int)) = false := decide_eq_false (by omega)
      go_wp2_with fail
      go_ret
      exact ⟨_, rfl, hown, hch⟩
end Go.Proofs.Ytokcodeeaneeaaa
