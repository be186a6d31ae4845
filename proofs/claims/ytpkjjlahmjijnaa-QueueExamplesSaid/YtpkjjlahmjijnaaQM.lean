/- The queue: its memory, and its small functions. -/
import Derived.Test.YtpkjjlahmjijnaaQPlain
import Derived.Test.YtpkjjlahmjijnaaBothA
namespace Go.Proofs.Ytpkjjlahmjijnaa
open Go.RowKit
set_option linter.unusedVariables false
set_option linter.unusedSimpArgs false
set_option linter.unusedSectionVars false

def qdCells (p : Nat) (f : Qd) (pu : Value) : Array Value := #[.pointer (some ⟨p, 0, none⟩), .int .i64 f.head, .int .i64 f.tail, .int .i64 f.ring, .int .u64 f.n, pu]
def puCells (qb : Nat) (q : Pu) : Array Value := #[.pointer (some ⟨qb, 0, none⟩), .int .i64 q.t, .int .u64 q.v, .int .u64 q.fr, .int .u64 q.sn, .int .u8 q.ph, .int .i64 q.er]
def plCells (qb : Nat) (q : Pl) : Array Value := #[.pointer (some ⟨qb, 0, none⟩), .int .i64 q.t, .int .u64 q.at', .int .u64 q.got, .int .u8 q.ph, .int .i64 q.er, .bool q.fin]

/-- The cells of a queue exist. -/
structure QOk (s : BS) (f : Qd) : Prop where
  h : f.head < s.vs.length
  t : f.tail < s.vs.length
  r : f.ring + f.n ≤ s.vs.length
  n1 : 1 ≤ f.n
  n2 : f.n ≤ 64

/-- A queue in memory: its bank and its block. -/
structure QueueM (B : Nat) (w : World) (p cb qb : Nat) (lv : Value) (s : BS) (f : Qd) (pu : Value) : Prop where
  b : Bank B w p cb lv s.vs s.lg
  fd : Blk w qb 96 (qdCells p f pu)
  ok : QOk s f
  bf : B ≤ qb

section
variable {B p cb qb : Nat} {lv : Value} {s : BS} {f : Qd} {pu : Value} {w w' : World}
theorem QueueM.ch {fp : Nat → Prop} (h : QueueM B w p cb qb lv s f pu) (c : Ch fp w w') (h1 : ¬ fp p) (h2 : ¬ fp cb) (h3 : ∀ k, lv.ownBlock = some k → ¬ fp k) (h4 : ¬ fp qb) : QueueM B w' p cb qb lv s f pu :=
  ⟨h.b.ch c h1 h2 h3, c.blk h.fd h4, h.ok, h.bf⟩
theorem QueueM.keep (h : QueueM B w p cb qb lv s f pu) (c : Ch (fun _ => False) w w') : QueueM B w' p cb qb lv s f pu := h.ch c id id (fun _ _ => id) id
theorem QueueM.drewN (h : QueueM B w p cb qb lv s f pu) (n : Nat) : QueueM B (w.drewN n) p cb qb lv s f pu := h.keep ((Ch.refl _ w).drewN n)
theorem QueueM.hn (h : QueueM B w p cb qb lv s f pu) : s.vs.length ≤ 4096 := h.b.hn
theorem not_fp {g : Nat} {vs : List Int} {lg : List Acc} {t : TypeId} {cs : Array Value} (h : Bank B w p cb lv vs lg) (hg : Blk w g t cs) (h1 : t ≠ 84) (h2 : t ≠ 90) (h3 : t ≠ 120) : ¬ FP p cb lv g := by
  rintro (e | e | e)
  · exact hg.ne h.hp h1 e
  · exact hg.ne h.hc h2 e
  · exact hg.own h.hl h3 e
theorem bank_drew {vs : List Int} {lg : List Acc} (h : Bank B w p cb lv vs lg) (n : Nat) : Bank B (w.drewN n) p cb lv vs lg := h.ch ((Ch.refl (fun _ => False) w).drewN n) id id (fun _ _ => id)
theorem ent_lt (h : QOk s f) (i : Int) : f.ring ≤ f.ent i ∧ f.ent i < s.vs.length := by
  have := Int.emod_nonneg i (show (f.n : Int) ≠ 0 by have := h.n1; omega)
  have := Int.emod_lt_of_pos i (show (0 : Int) < (f.n : Int) by have := h.n1; omega)
  have := h.r
  unfold Qd.ent
  omega
end

/-- What a step leaves that made an access: g is the operation's block, t its type. -/
def SRes (B p cb qb g : Nat) (t : TypeId) (lv : Value) (f : Qd) (pu : Value) (s' : BS) (cs : Array Value) (w : World) (e : Ending) (w' : World) : Prop :=
  e = .returned (.tuple #[]) ∧ ∃ lv', QueueM B w' p cb qb lv' s' f pu ∧ Blk w' g t cs ∧ Ch (fun b => FP p cb lv b ∨ b = g) w w' ∧ Fresh w lv lv'

section
variable {B p cb qb g : Nat} {t : TypeId} {lv lv' : Value} {s s' : BS} {f : Qd} {pu : Value} {cs cs' : Array Value} {w w1 w' : World}
theorem qafter {n : Nat} (h : QueueM B w p cb qb lv s f pu) (hq : Blk w g t cs) (hs : BStep B (w.drewN n) w1 p cb lv s') (h1 : t ≠ 84 := by decide) (h2 : t ≠ 90 := by decide) (h3 : t ≠ 120 := by decide) :
    ∃ lv', Bank B w1 p cb lv' s'.vs s'.lg ∧ Ch (FP p cb lv) w w1 ∧ Fresh w lv lv' ∧ Blk w1 qb 96 (qdCells p f pu) ∧ Blk w1 g t cs := by
  obtain ⟨lv', hb, hc, hf⟩ := hs
  have c1 : Ch (FP p cb lv) w w1 := hc.ofDrewN
  exact ⟨lv', hb, c1, hf, c1.blk h.fd (not_fp h.b h.fd (by decide) (by decide) (by decide)), c1.blk hq (not_fp h.b hq h1 h2 h3)⟩

theorem QOk.of (h : QOk s f) (hl : s'.vs.length = s.vs.length) : QOk s' f := ⟨by rw [hl]; exact h.h, by rw [hl]; exact h.t, by rw [hl]; exact h.r, h.n1, h.n2⟩

theorem sres_close (h : QueueM B w p cb qb lv s f pu) (hb1 : Bank B w1 p cb lv' s'.vs s'.lg) (hc1 : Ch (FP p cb lv) w w1) (hf1 : Fresh w lv lv') (hfd : Blk w1 qb 96 (qdCells p f pu)) (hqd : Blk w1 g t cs) (hl : s'.vs.length = s.vs.length)
    (c2 : Ch (fun b => b = g) w1 w') (hq' : Blk w' g t cs') (h1 : t ≠ 84 := by decide) (h2 : t ≠ 90 := by decide) (h3 : t ≠ 120 := by decide) (h4 : t ≠ 96 := by decide) :
    SRes B p cb qb g t lv f pu s' cs' w (.returned (.tuple #[])) w' := by
  have n1 := not_fp hb1 hqd h1 h2 h3
  refine ⟨rfl, lv', ⟨hb1.ch c2 (fun e => n1 (.inl e.symm)) (fun e => n1 (.inr (.inl e.symm))) (fun k hk e => n1 (.inr (.inr (by rw [← e]; exact hk)))), c2.blk hfd (fun e => hqd.ne hfd h4 e.symm), h.ok.of hl, h.bf⟩, hq', ?_, hf1⟩
  exact (hc1.mono fun _ _ h => .inl h).trans c2 (fun _ _ h => .inr h)
end

theorem sres_close2 {B p cb qb g : Nat} {t : TypeId} {lv lv' : Value} {s s' : BS} {f : Qd} {pu : Value} {cs cs' : Array Value} {w w1 w' : World} (h : QueueM B w p cb qb lv s f pu) (hb1 : Bank B w1 p cb lv' s'.vs s'.lg) (hc1 : Ch (fun b => FP p cb lv b ∨ b = g) w w1) (hf1 : Fresh w lv lv') (hfd : Blk w1 qb 96 (qdCells p f pu)) (hqd : Blk w1 g t cs) (hl : s'.vs.length = s.vs.length)
    (c2 : Ch (fun b => b = g) w1 w') (hq' : Blk w' g t cs') (h1 : t ≠ 84 := by decide) (h2 : t ≠ 90 := by decide) (h3 : t ≠ 120 := by decide) (h4 : t ≠ 96 := by decide) :
    SRes B p cb qb g t lv f pu s' cs' w (.returned (.tuple #[])) w' := by
  have n1 := not_fp hb1 hqd h1 h2 h3
  refine ⟨rfl, lv', ⟨hb1.ch c2 (fun e => n1 (.inl e.symm)) (fun e => n1 (.inr (.inl e.symm))) (fun k hk e => n1 (.inr (.inr (by rw [← e]; exact hk)))), c2.blk hfd (fun e => hqd.ne hfd h4 e.symm), h.ok.of hl, h.bf⟩, hq', ?_, hf1⟩
  exact hc1.trans c2 (fun _ _ h => .inr h)

/-- A cell of the operation's own was set. -/
theorem qown {B p cb qb g : Nat} {t : TypeId} {lv : Value} {s : BS} {f : Qd} {pu : Value} {cs : Array Value} {w w0 : World} (h : QueueM B w p cb qb lv s f pu) (hq : Blk w g t cs) (c0 : Ch (fun b => b = g) w w0) (h1 : t ≠ 84 := by decide) (h2 : t ≠ 90 := by decide) (h3 : t ≠ 120 := by decide) (h4 : t ≠ 96 := by decide) :
    QueueM B w0 p cb qb lv s f pu := by
  have n1 := not_fp h.b hq h1 h2 h3
  exact h.ch c0 (fun e => n1 (.inl e.symm)) (fun e => n1 (.inr (.inl e.symm))) (fun k hk e => n1 (.inr (.inr (by rw [← e]; exact hk)))) (fun e => hq.ne h.fd h4 e.symm)

theorem fresh_at {w w0 : World} {v v' : Value} (h : Fresh w0 v v') (hz : w0.heap.size = w.heap.size) : Fresh w v v' := h.imp id (fun h b hb => by rw [← hz]; exact h b hb)

theorem wrap_mod {a : Int} {n : Nat} (h0 : 0 ≤ a) (h1 : 1 ≤ n) (h2 : n ≤ 64) : a % (n : Int) = ((a % (n : Int)).toNat : Int) := by
  have := Int.emod_nonneg a (show (n : Int) ≠ 0 by omega)
  omega

set_option maxHeartbeats 1000000 in
theorem qent_any (B p cb qb : Nat) (lv : Value) (s : BS) (f : Qd) (pu : Value) (i : Int) (w : World) (h : QueueM B w p cb qb lv s f pu) (hi : 0 ≤ i ∧ i < 18446744073709551616) :
    Calls Try.prog 56 #[.pointer (some ⟨qb, 0, none⟩), .int .u64 i] w fun e w' => e = .returned (.int .i64 (f.ent i : Nat)) ∧ ∃ n, w' = w.drewN n := by
  have g3 : w.cell? ⟨qb, 3, none⟩ = some (.int .i64 f.ring) := h.fd.cell 3
  have g4 : w.cell? ⟨qb, 4, none⟩ = some (.int .u64 f.n) := h.fd.cell 4
  have hn1 := h.ok.n1
  have hn2 := h.ok.n2
  have hr := h.ok.r
  have hn := h.hn
  have m0 := Int.emod_nonneg i (show (f.n : Int) ≠ 0 by omega)
  have m1 := Int.emod_lt_of_pos i (show (0 : Int) < (f.n : Int) by omega)
  have hz : ¬ (f.n : Int) = 0 := by omega
  have hz' : ((f.n : Int) == 0) = false := by rw [beq_eq_false_iff_ne]; exact hz
  have hi0 := hi.1
  have hfin : (f.ring : Int) + i % (f.n : Int) = ((f.ent i : Nat) : Int) := by unfold Qd.ent; omega
  have HF := hid hfin
  clear h hfin hi
  go_enter Try.func56, Try.ntmps56
  go_wp2_with fail
  go_quiet (fail)
  go_wp2_with fail
  go_ret
  rw [← HF.out]
  exact ⟨by first | rfl | trivial, _, rfl⟩
theorem qent_q (B p cb qb : Nat) (lv : Value) (s : BS) (f : Qd) (pu : Value) (i : Int) (w : World) (h : QueueM B w p cb qb lv s f pu) (hi : 0 ≤ i ∧ i < 18446744073709551616) (k : Nat) :
    Calls Try.prog 56 #[.pointer (some ⟨qb, 0, none⟩), .int .u64 i] (w.drewN k) fun e w'' => e = .returned (.int .i64 (f.ent i : Nat)) ∧ ∃ m, w'' = w.drewN m :=
  Calls.quiet_of ((qent_any B p cb qb lv s f pu i (w.drewN k) (h.drewN k) hi))
end Go.Proofs.Ytpkjjlahmjijnaa
