/- The queue: a run begins. -/
import Derived.Test.YtpkjjlahmjijnaaQRs
import Derived.Test.YtpkjjlahmjijnaaQNewA
namespace Go.Proofs.Ytpkjjlahmjijnaa
open Go.RowKit
set_option linter.unusedVariables false
set_option linter.unusedSimpArgs false
set_option linter.unusedSectionVars false


set_option maxHeartbeats 400000 in
theorem index_any (i : Int) (n : Nat) (w : World) (hi : -9223372036854775808 ≤ i ∧ i < 9223372036854775808) (h1 : 1 ≤ n) (h2 : n ≤ 1000000) : Calls Try.prog 21 #[.int .i64 i, .int .i64 n] w fun e w' => e = .returned (.int .i64 (i % (n : Int))) ∧ w = w' := by
  have hne : ¬ (n : Int) = 0 := by omega
  have hb : ((n : Int) == 0) = false := by rw [beq_eq_false_iff_ne]; exact hne
  have t1 : i.tmod (n : Int) < n := Int.tmod_lt_of_pos _ (by omega)
  have t2 : -(n : Int) < i.tmod (n : Int) := by
    have := Int.lt_tmod_of_pos i (show (0 : Int) < n by omega)
    omega
  have hfin : (i.tmod (n : Int) + n) % (n : Int) = i % (n : Int) := by
    rw [Int.add_emod_right]
    have := Int.tmod_add_mul_tdiv i (n : Int)
    conv => rhs; rw [← this]
    rw [Int.add_mul_emod_self_left]
  obtain ⟨t, ht⟩ : ∃ t, t = i.tmod (n : Int) := ⟨_, rfl⟩
  rw [← ht] at t1 t2 hfin
  have hpos : 0 ≤ t + (n : Int) := by omega
  have hle : t + (n : Int) ≤ 2000000 := by omega
  have HF := hid hfin
  have ht' : i.tmod (n : Int) = t := ht.symm
  clear hfin ht
  go_enter Try.func21, Try.ntmps21
  go_wp2_with fail
  go_ret
  exact ⟨by rw [← HF.out]; first | rfl | trivial, rfl⟩
theorem index_q (i : Int) (n : Nat) (w : World) (hi : -9223372036854775808 ≤ i ∧ i < 9223372036854775808) (h1 : 1 ≤ n) (h2 : n ≤ 1000000) (k : Nat) : Calls Try.prog 21 #[.int .i64 i, .int .i64 n] (w.drewN k) fun e w'' => e = .returned (.int .i64 (i % (n : Int))) ∧ ∃ m, w'' = w.drewN m :=
  Calls.quiet_of_same ((index_any i n (w.drewN k) hi h1 h2).mono fun e w' ⟨he, hw⟩ => ⟨he, hw.symm⟩)

def xq0 (n : Nat) : Xq := ⟨⟨List.replicate (n + 2) 0, []⟩, [], [], [], [], [], none⟩
theorem qerr_fresh {n : Nat} (h1 : 1 ≤ n) (h2 : n ≤ 64) : qerr (List.replicate (n + 2) 0) 0 1 2 n = 0 := by
  have hz : ∀ c, lk (List.replicate (n + 2) (0 : Int)) c = 0 := by
    intro c
    simp only [lk, List.getD_eq_getElem?_getD, List.getElem?_replicate]
    split <;> rfl
  unfold qerr
  rw [List.length_replicate, if_neg (by omega), if_neg (fun e => e ⟨⟨by omega, by omega⟩, ⟨by omega, by omega⟩, by omega, by omega⟩), if_neg (by omega), if_neg]
  rintro ⟨j, _, hj, _⟩
  exact hj (hz j)

/-- A run was begun. -/
def Begun (n : Nat) (w : World) (e : Ending) (w' : World) : Prop :=
  ∃ p cb qb X, e = .returned (.pointer (some ⟨X, 0, none⟩)) ∧ RunQ w.heap.size p cb qb X n 0 (.slice none 0 0) (.slice none 0 0) (.slice none 0 0) (.slice none 0 0) (.slice none 0 0) (.slice none 0 0) (.slice none 0 0) (xq0 n) [] none w w'

set_option maxHeartbeats 1000000 in
theorem begin_any (n : Nat) (h1 : 1 ≤ n) (h2 : n ≤ 64) (w : World) : Calls Try.prog 19 #[.int .i64 n] w (Begun n w) := by
  go_enter Try.func19, Try.ntmps19
  go_wp2_with fail
  rw [show ((n : Int) + 2) = ((n + 2 : Nat) : Int) by push_cast; rfl]
  refine (new_ok w.heap.size (n + 2) (by omega) (by omega) w (Nat.le_refl _)).mono ?_
  rintro e w1 ⟨p, cb, rfl, hbank, hc1, hp1, hcb1⟩
  have HB := hid hbank
  have HC := hid hc1
  clear hbank hc1
  go_wp2_with fail
  refine (qnew_any w.heap.size p cb _ ⟨List.replicate (n + 2) 0, []⟩ 0 1 2 n w1 HB.out (by show (List.replicate (n + 2) (0 : Int)).length ≤ 4096; rw [List.length_replicate]; omega)).mono ?_
  rintro e w2 ⟨hc2, hr2⟩
  rw [show (⟨List.replicate (n + 2) 0, []⟩ : BS).vs = List.replicate (n + 2) 0 from rfl, qerr_fresh h1 h2] at hr2
  rcases hr2 with ⟨h, _⟩ | ⟨_, qb, hqb, rfl, hqd⟩
  · exact absurd rfl h
  have HQ := hid hqd
  have HC2 := hid hc2
  clear hqd hc2
  go_wp2_with fail
  go_ret
  have hQM : QueueM w.heap.size w2 p cb qb (.slice none 0 0) ⟨List.replicate (n + 2) 0, []⟩ (lawQ n) (.pointer none) :=
    ⟨HB.out.ch HC2.out id id (fun _ _ => id), HQ.out, ⟨by simp [lawQ], by simp [lawQ], by simp [lawQ]; omega, h1, h2⟩, Nat.le_trans HC.out.size hqb⟩
  have cw : Ch (fun _ => False) w w2 := HC.out.trans HC2.out (fun _ _ h => h)
  have nilr : ∀ (e : TypeId) (xs : List Value), xs = [] → (rowR w.heap.size e 1 0 (.slice none 0 0) xs).holds w := fun e xs hx => by subst hx; exact World.ownsRow_nil _ _ _ _
  have nof : ∀ (e : TypeId) (xs : List Value) k, (rowR w.heap.size e 1 0 (.slice none 0 0) xs).foot k → False := fun e xs k hk => by cases hk
  have m0 := Mem.nil (w0 := w) (Nat.le_refl _) (Below.refl _ w)
  have m1 := m0.add (rowR w.heap.size 52 1 0 (.slice none 0 0) []) (Ch.refl _ _) (nilr _ _ rfl) (fun k hk => (nof _ _ k hk).elim)
  have m2 := m1.add (rowR w.heap.size 22 1 0 (.slice none 0 0) []) (Ch.refl _ _) (nilr _ _ rfl) (fun k hk => (nof _ _ k hk).elim)
  have m3 := m2.add (rowR w.heap.size 3 1 0 (.slice none 0 0) []) (Ch.refl _ _) (nilr _ _ rfl) (fun k hk => (nof _ _ k hk).elim)
  have m4 := m3.add (rowR w.heap.size 3 1 0 (.slice none 0 0) []) (Ch.refl _ _) (nilr _ _ rfl) (fun k hk => (nof _ _ k hk).elim)
  have m5 := m4.add (queueR w.heap.size p cb qb (.slice none 0 0) ⟨List.replicate (n + 2) 0, []⟩ (lawQ n) (.pointer none)) cw hQM (fun k hk => by
    rcases hk with (rfl | rfl | hk) | rfl
    · exact hp1
    · exact hcb1
    · cases hk
    · exact Nat.le_trans HC.out.size hqb)
  have m6 := m5.add (blkR w2.heap.size 51 (runCells p qb (.slice none 0 0) (.slice none 0 0) (.slice none 0 0) (.slice none 0 0) (.slice none 0 0) (.slice none 0 0))) ((Ch.refl _ w2).alloc _) (Blk.new w2 _ _) (fun k hk => by rw [show k = w2.heap.size from hk]; exact Nat.le_refl _)
  have m7 := m6.add (rowR w.heap.size 22 1 0 (.slice none 0 0) []) (Ch.refl _ _) (World.ownsRow_nil _ _ _ _) (fun k hk => by cases hk)
  have m8 := m7.add (rowR w.heap.size 22 1 0 (.slice none 0 0) []) (Ch.refl _ _) (World.ownsRow_nil _ _ _ _) (fun k hk => by cases hk)
  have m9 := m8.add (pullR qb none) (Ch.refl _ _) trivial (fun k hk => hk.elim)
  refine ⟨p, cb, qb, w2.heap.size, rfl, m9, rfl, inv_zero h1 h2, Nat.le_refl _, Nat.le_refl _, Nat.le_refl _, fun k => ?_, fun k => ?_, by decide, rfl⟩
  · show lk [] k ≤ _
    rw [lk_nil]; exact Int.natCast_nonneg _
  · show lk [] k ≤ _
    rw [lk_nil]; exact Int.natCast_nonneg _
end Go.Proofs.Ytpkjjlahmjijnaa
