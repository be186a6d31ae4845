/- The reference's queue: memory, small functions. -/
import Derived.Test.YtpkjjlahmjijnaaQN
import Derived.IntWalk
namespace Go.Proofs.Ytpkjjlahmjijnaa
open Go.RowKit
set_option linter.unusedVariables false
set_option linter.unusedSimpArgs false
set_option linter.unusedSectionVars false

def rqdCells (rp : Nat) (f : Qd) (bs : Bool) : Array Value := #[.pointer (some ⟨rp, 0, none⟩), .int .i64 f.head, .int .i64 f.tail, .int .i64 f.ring, .int .i64 f.n, .bool bs]
def rpuCells (rq : Nat) (q : Pu) : Array Value := #[.pointer (some ⟨rq, 0, none⟩), .int .i64 q.t, .int .u64 q.v, .int .u64 q.fr, .int .u8 q.ph, .int .i64 q.er]
def rplCells (rq : Nat) (q : Pl) : Array Value := #[.pointer (some ⟨rq, 0, none⟩), .int .i64 q.t, .int .u64 q.got, .int .u8 q.ph, .int .i64 q.er]
/-- The reference's queue in memory. -/
structure RQuM (B : Nat) (w : World) (rp vb rq : Nat) (mv : Value) (s : BS) (f : Qd) (bs : Bool) : Prop where
  r : RBank B w rp vb mv s.vs s.lg
  fd : Blk w rq 98 (rqdCells rp f bs)
  ok : QOk s f
  bq : B ≤ rq
section
variable {B rp vb rq g : Nat} {t : TypeId} {mv mv' : Value} {s s' : BS} {f : Qd} {bs bs' : Bool} {cs cs' : Array Value} {w w1 w' : World}
theorem RQuM.ch {fp : Nat → Prop} (h : RQuM B w rp vb rq mv s f bs) (c : Ch fp w w') (h1 : ∀ k, FP rp vb mv k ∨ k = rq → ¬ fp k) : RQuM B w' rp vb rq mv s f bs :=
  ⟨h.r.ch c (h1 _ (.inl (.inl rfl))) (h1 _ (.inl (.inr (.inl rfl)))) (fun k hk => h1 k (.inl (.inr (.inr hk)))), c.blk h.fd (h1 _ (.inr rfl)), h.ok, h.bq⟩
theorem RQuM.keep (h : RQuM B w rp vb rq mv s f bs) (c : Ch (fun _ => False) w w') : RQuM B w' rp vb rq mv s f bs := h.ch c (fun _ _ => id)
theorem RQuM.drewN (h : RQuM B w rp vb rq mv s f bs) (n : Nat) : RQuM B (w.drewN n) rp vb rq mv s f bs := h.keep ((Ch.refl _ w).drewN n)
theorem rbank_drew {vs : List Int} {lg : List Acc} (h : RBank B w rp vb mv vs lg) (n : Nat) : RBank B (w.drewN n) rp vb mv vs lg := h.ch ((Ch.refl (fun _ => False) w).drewN n) id id (fun _ _ => id)
/-- What a call leaves: g is the operation's block, t its type. -/
def RQRes (B rp vb rq g : Nat) (t : TypeId) (mv : Value) (f : Qd) (s' : BS) (bs' : Bool) (cs' : Array Value) (w : World) (ret : Value) (e : Ending) (w' : World) : Prop :=
  e = .returned ret ∧ ∃ mv', RQuM B w' rp vb rq mv' s' f bs' ∧ Blk w' g t cs' ∧ Ch (fun b => FP rp vb mv b ∨ b = rq ∨ b = g) w w' ∧ Fresh w mv mv'
theorem rqafter {n : Nat} (h : RQuM B w rp vb rq mv s f bs) (hq : Blk w g t cs) (hs : RStep B (w.drewN n) w1 rp vb mv s') (h1 : t ≠ 81 := by decide) (h2 : t ≠ 22 := by decide) (h3 : t ≠ 120 := by decide) :
    ∃ mv', RBank B w1 rp vb mv' s'.vs s'.lg ∧ Ch (FP rp vb mv) w w1 ∧ Fresh w mv mv' ∧ Blk w1 rq 98 (rqdCells rp f bs) ∧ Blk w1 g t cs := by
  obtain ⟨mv', hb, hc, hf⟩ := hs
  have c1 : Ch (FP rp vb mv) w w1 := hc.ofDrewN
  exact ⟨mv', hb, c1, hf, c1.blk h.fd (h.r.out h.fd (by decide) (by decide) (by decide)), c1.blk hq (h.r.out hq h1 h2 h3)⟩
theorem rqres_close {ret : Value} (h : RQuM B w rp vb rq mv s f bs) (hb1 : RBank B w1 rp vb mv' s'.vs s'.lg) (hc1 : Ch (fun b => FP rp vb mv b ∨ b = rq ∨ b = g) w w1) (hf1 : Fresh w mv mv') (hfd : Blk w1 rq 98 (rqdCells rp f bs)) (hqd : Blk w1 g t cs) (hl : s'.vs.length = s.vs.length)
    (c2 : Ch (fun b => b = rq ∨ b = g) w1 w') (hfd' : Blk w' rq 98 (rqdCells rp f bs')) (hq' : Blk w' g t cs') (h1 : t ≠ 81 := by decide) (h2 : t ≠ 22 := by decide) (h3 : t ≠ 120 := by decide) :
    RQRes B rp vb rq g t mv f s' bs' cs' w ret (.returned ret) w' := by
  have n1 := hb1.out hfd (by decide) (by decide) (by decide)
  have n3 := hb1.out hqd h1 h2 h3
  have key : ∀ k, FP rp vb mv' k → ¬ (k = rq ∨ k = g) := by
    rintro k hk (e | e)
    · exact n1 (e ▸ hk)
    · exact n3 (e ▸ hk)
  exact ⟨rfl, mv', ⟨hb1.ch c2 (key _ (.inl rfl)) (key _ (.inr (.inl rfl))) (fun k hk => key k (.inr (.inr hk))), hfd', h.ok.of hl, h.bq⟩, hq', hc1.trans c2 (fun _ _ h => .inr h), hf1⟩
theorem RQuM.vcell (h : RQuM B w rp vb rq mv s f bs) (c : Nat) (hc : c < s.vs.length) : w.cell? ⟨vb, c, none⟩ = some (.int .u64 (lk s.vs c)) := (h.r.hc.cell c).trans (u64s_getD s.vs c hc)
end

section
variable (B rp vb rq : Nat) (mv : Value) (s : BS) (f : Qd) (bs : Bool) (w : World) (h : RQuM B w rp vb rq mv s f bs)
include h
set_option maxHeartbeats 1000000 in
theorem rent_any (i : Int) (hi : 0 ≤ i ∧ i < 18446744073709551616) :
    Calls Try.prog 66 #[.pointer (some ⟨rq, 0, none⟩), .int .u64 i] w fun e w' => e = .returned (.int .i64 (f.ent i : Nat)) ∧ ∃ n, w' = w.drewN n := by
  have b3 : w.cell? ⟨rq, 3, none⟩ = some (.int .i64 f.ring) := h.fd.cell 3
  have b4 : w.cell? ⟨rq, 4, none⟩ = some (.int .i64 f.n) := h.fd.cell 4
  have hn := h.r.hn
  have hkh := h.ok.h
  have hkt := h.ok.t
  have hkr := h.ok.r
  have hn1 := h.ok.n1
  have hn2 := h.ok.n2
  have m0 := Int.emod_nonneg i (show (f.n : Int) ≠ 0 by omega)
  have m1 := Int.emod_lt_of_pos i (show (0 : Int) < (f.n : Int) by omega)
  have hz : ¬ (f.n : Int) = 0 := by omega
  have hz' : ((f.n : Int) == 0) = false := by rw [beq_eq_false_iff_ne]; exact hz
  have hi0 := hi.1
  have hfin : (f.ring : Int) + i % (f.n : Int) = ((f.ent i : Nat) : Int) := by unfold Qd.ent; omega
  have hcv : IntKind.u64.wrap (f.n : Int) = (f.n : Int) := by rw [w64_wrap]; unfold w64; omega
  have hcv2 : IntKind.i64.wrap (i % (f.n : Int)) = i % (f.n : Int) := IntWalk.i64_in _ (by omega)
  have hcv3 : IntKind.i64.wrap ((f.ring : Int) + i % (f.n : Int)) = (f.ring : Int) + i % (f.n : Int) := IntWalk.i64_in _ (by omega)
  have htm : i.tmod (f.n : Int) = i % (f.n : Int) := Int.tmod_eq_emod_of_nonneg hi0
  have HF := hid hfin
  clear h hfin hi
  go_enter Try.func66, Try.ntmps66
  go_wp2_with fail
  go_quiet (fail)
  go_wp2_with fail
  go_ret
  rw [← HF.out]
  exact ⟨by first | rfl | trivial, _, rfl⟩
theorem rent_q (i : Int) (hi : 0 ≤ i ∧ i < 18446744073709551616) (k : Nat) :
    Calls Try.prog 66 #[.pointer (some ⟨rq, 0, none⟩), .int .u64 i] (w.drewN k) fun e w'' => e = .returned (.int .i64 (f.ent i : Nat)) ∧ ∃ m, w'' = w.drewN m :=
  Calls.quiet_of (rent_any B rp vb rq mv s f bs (w.drewN k) (h.drewN k) i hi)
set_option maxHeartbeats 1000000 in
theorem rqlen_any (hH : 0 ≤ qH s f ∧ qH s f ≤ 1000000) (hT : 0 ≤ qT s f ∧ qT s f ≤ 1000000) : Calls Try.prog 41 #[.pointer (some ⟨rq, 0, none⟩)] w fun e w' => e = .returned (.int .i64 (qT s f - qH s f)) ∧ ∃ n, w' = w.drewN n := by
  have b0 : w.cell? ⟨rq, 0, none⟩ = some (.pointer (some ⟨rp, 0, none⟩)) := h.fd.cell 0
  have b1 : w.cell? ⟨rq, 1, none⟩ = some (.int .i64 f.head) := h.fd.cell 1
  have b2 : w.cell? ⟨rq, 2, none⟩ = some (.int .i64 f.tail) := h.fd.cell 2
  have hn := h.r.hn
  have hkh := h.ok.h
  have hkt := h.ok.t
  have hkr := h.ok.r
  have hn1 := h.ok.n1
  have hn2 := h.ok.n2
  have r0 : w.cell? ⟨rp, 0, none⟩ = some (.slice (some ⟨vb, 0, none⟩) s.vs.length s.vs.length) := h.r.hp.cell 0
  have d1 : decide (f.head < s.vs.length) = true := decide_eq_true hkh
  have d2 : decide (f.tail < s.vs.length) = true := decide_eq_true hkt
  have v1 : w.cell? ⟨vb, f.head, none⟩ = some (.int .u64 (qH s f)) := h.vcell f.head hkh
  have v2 : w.cell? ⟨vb, f.tail, none⟩ = some (.int .u64 (qT s f)) := h.vcell f.tail hkt
  obtain ⟨x, hx⟩ : ∃ x, x = qH s f := ⟨_, rfl⟩
  obtain ⟨y, hy⟩ : ∃ y, y = qT s f := ⟨_, rfl⟩
  rw [← hx] at hH v1 ⊢
  rw [← hy] at hT v2 ⊢
  have hcv : IntKind.i64.wrap (IntKind.u64.wrap (y - x)) = y - x := by
    rw [w64_wrap]
    simp only [IntKind.wrap, IntKind.signed, IntKind.bits, w64]
    simp
    omega
  clear h hx hy
  go_enter Try.func41, Try.ntmps41
  go_wp2_with fail
  go_quiet (fail)
  go_wp2_with fail
  go_ret
  exact ⟨by first | rfl | simp [hcv], _, rfl⟩
end

section
variable (B rp vb rq : Nat) (mv : Value) (s : BS) (f : Qd) (bs : Bool) (w : World) (h : RQuM B w rp vb rq mv s f bs) (t : Int)
include h
/-- A push was begun. -/
def RPuBegun (rq : Nat) (q : Pu) (w : World) (e : Ending) (w' : World) : Prop := ∃ g, e = .returned (.tuple #[.pointer (some ⟨g, 0, none⟩), .int .i64 0]) ∧ Blk w' g 113 (rpuCells rq q) ∧ Ch (fun _ => False) w w' ∧ w.heap.size ≤ g
theorem rqpush_ok (v : Int) (ht : 0 ≤ t ∧ t < 16) (hv : v ≠ 0) : Calls Try.prog 33 #[.pointer (some ⟨rq, 0, none⟩), .int .i64 t, .int .u64 v] w (RPuBegun rq ⟨t, v, 0, 0, 4, 0⟩ w) := by
  have d1 : decide (t < 0) = false := decide_eq_false (by omega)
  have d2 : decide (16 ≤ t) = false := decide_eq_false (by omega)
  have d3 : (v == 0) = false := by rw [beq_eq_false_iff_ne]; exact hv
  clear h hv
  go_enter Try.func33, Try.ntmps33
  go_wp2_with fail
  go_ret2
  exact ⟨_, rfl, Blk.new _ _ _, (Ch.refl _ _).alloc _, Nat.le_refl _⟩
theorem rqpush_bad (v : Int) (hb : t < 0 ∨ 16 ≤ t ∨ v = 0) : Calls Try.prog 33 #[.pointer (some ⟨rq, 0, none⟩), .int .i64 t, .int .u64 v] w fun e w' => e = .returned (.tuple #[.pointer none, .int .i64 2]) ∧ w = w' := by
  clear h
  by_cases h1 : t < 0
  · have d1 : decide (t < 0) = true := decide_eq_true h1
    go_enter Try.func33, Try.ntmps33
    go_wp2_with fail
    go_ret2
    exact ⟨rfl, rfl⟩
  have d1 : decide (t < 0) = false := decide_eq_false h1
  by_cases h2 : 16 ≤ t
  · have d2 : decide (16 ≤ t) = true := decide_eq_true h2
    go_enter Try.func33, Try.ntmps33
    go_wp2_with fail
    go_ret2
    exact ⟨rfl, rfl⟩
  have d2 : decide (16 ≤ t) = false := decide_eq_false h2
  have hv : v = 0 := by omega
  subst hv
  go_enter Try.func33, Try.ntmps33
  go_wp2_with fail
  go_ret2
  exact ⟨rfl, rfl⟩
theorem rqpull_bad (hb : t < 0 ∨ 16 ≤ t) : Calls Try.prog 34 #[.pointer (some ⟨rq, 0, none⟩), .int .i64 t] w fun e w' => e = .returned (.tuple #[.pointer none, .int .i64 2]) ∧ w = w' := by
  clear h
  by_cases h1 : t < 0
  · have d1 : decide (t < 0) = true := decide_eq_true h1
    go_enter Try.func34, Try.ntmps34
    go_wp2_with fail
    go_ret2
    exact ⟨rfl, rfl⟩
  have d1 : decide (t < 0) = false := decide_eq_false h1
  have d2 : decide (16 ≤ t) = true := decide_eq_true (by omega)
  go_enter Try.func34, Try.ntmps34
  go_wp2_with fail
  go_ret2
  exact ⟨rfl, rfl⟩
theorem rqpull_busy (ht : 0 ≤ t ∧ t < 16) (hb : bs = true) : Calls Try.prog 34 #[.pointer (some ⟨rq, 0, none⟩), .int .i64 t] w fun e w' => e = .returned (.tuple #[.pointer none, .int .i64 8]) ∧ w = w' := by
  have d1 : decide (t < 0) = false := decide_eq_false (by omega)
  have d2 : decide (16 ≤ t) = false := decide_eq_false (by omega)
  have b5 : w.cell? ⟨rq, 5, none⟩ = some (.bool bs) := h.fd.cell 5
  rw [hb] at b5
  clear h hb
  go_enter Try.func34, Try.ntmps34
  go_wp2_with fail
  go_ret2
  exact ⟨rfl, rfl⟩
/-- A pull was begun. -/
def RPlBegun (B rp vb rq : Nat) (mv : Value) (s : BS) (f : Qd) (q : Pl) (w : World) (e : Ending) (w' : World) : Prop :=
  ∃ g, e = .returned (.tuple #[.pointer (some ⟨g, 0, none⟩), .int .i64 0]) ∧ RQuM B w' rp vb rq mv s f true ∧ Blk w' g 115 (rplCells rq q) ∧ Ch (fun b => b = rq) w w' ∧ w.heap.size ≤ g
theorem rqpull_ok (ht : 0 ≤ t ∧ t < 16) (hb : bs = false) (a : Int) : Calls Try.prog 34 #[.pointer (some ⟨rq, 0, none⟩), .int .i64 t] w (RPlBegun B rp vb rq mv s f ⟨t, a, 0, 19, 0, false⟩ w) := by
  have d1 : decide (t < 0) = false := decide_eq_false (by omega)
  have d2 : decide (16 ≤ t) = false := decide_eq_false (by omega)
  have b5 : w.cell? ⟨rq, 5, none⟩ = some (.bool bs) := h.fd.cell 5
  have f5 := h.fd.free 5
  rw [hb] at b5
  have nw : rq ≠ w.heap.size := Nat.ne_of_lt h.fd.lt
  have H := hid h
  clear h hb
  go_enter Try.func34, Try.ntmps34
  go_wp2_with fail
  go_ret2
  have c : Ch (fun b => b = rq) w (w.setCell ⟨rq, 5, none⟩ (.bool true)) := (Ch.refl (fun b => b = rq) w).set (fun _ => rfl) _
  have n1 := H.out.r.out H.out.fd (by decide) (by decide) (by decide)
  have m1 : RQuM B (w.setCell ⟨rq, 5, none⟩ (.bool true)) rp vb rq mv s f true := ⟨H.out.r.ch c (fun e => n1 (.inl e.symm)) (fun e => n1 (.inr (.inl e.symm))) (fun k hk e => n1 (.inr (.inr (by rw [← e]; exact hk)))), H.out.fd.put 5 _, H.out.ok, H.out.bq⟩
  refine ⟨_, rfl, m1.keep ((Ch.refl _ _).alloc _), ?_, c.alloc _, by simp⟩
  have hb := Blk.new (w.setCell ⟨rq, 5, none⟩ (.bool true)) 115 #[.pointer (some ⟨rq, 0, none⟩), .int .i64 t, .int .u64 0, .int .u8 19, .int .i64 0]
  have e : (w.setCell ⟨rq, 5, none⟩ (.bool true)).heap.size = w.heap.size := by simp [World.setCell]
  rw [e] at hb
  exact hb
end
section
variable (rq g : Nat) (w : World)
theorem runext_any (q : Pu) (hq : Blk w g 113 (rpuCells rq q)) : Calls Try.prog 35 #[.pointer (some ⟨g, 0, none⟩)] w fun e w' => e = .returned (.int .u8 q.ph) ∧ w = w' := by
  have a4 : w.cell? ⟨g, 4, none⟩ = some (.int .u8 q.ph) := hq.cell 4
  clear hq
  go_enter Try.func35, Try.ntmps35
  go_wp2_with fail
  go_ret
  exact ⟨rfl, rfl⟩
theorem rlnext_any (q : Pl) (hq : Blk w g 115 (rplCells rq q)) : Calls Try.prog 38 #[.pointer (some ⟨g, 0, none⟩)] w fun e w' => e = .returned (.int .u8 q.ph) ∧ w = w' := by
  have a3 : w.cell? ⟨g, 3, none⟩ = some (.int .u8 q.ph) := hq.cell 3
  clear hq
  go_enter Try.func38, Try.ntmps38
  go_wp2_with fail
  go_ret
  exact ⟨rfl, rfl⟩
theorem rures_any (q : Pu) (hq : Blk w g 113 (rpuCells rq q)) : Calls Try.prog 37 #[.pointer (some ⟨g, 0, none⟩)] w fun e w' => e = .returned (.int .i64 (if q.ph = 0 then q.er else 8)) ∧ w = w' := by
  have a4 : w.cell? ⟨g, 4, none⟩ = some (.int .u8 q.ph) := hq.cell 4
  have a5 : w.cell? ⟨g, 5, none⟩ = some (.int .i64 q.er) := hq.cell 5
  clear hq
  by_cases h0 : q.ph = 0
  · have b0 : (q.ph != 0) = false := by rw [bne_eq_false_iff_eq]; exact h0
    rw [if_pos h0]
    clear h0
    go_enter Try.func37, Try.ntmps37
    go_wp2_with fail
    go_ret
    exact ⟨rfl, rfl⟩
  · have b0 : (q.ph != 0) = true := by rw [bne_iff_ne]; exact h0
    rw [if_neg h0]
    clear h0
    go_enter Try.func37, Try.ntmps37
    go_wp2_with fail
    go_ret
    exact ⟨rfl, rfl⟩
theorem rlres_any (q : Pl) (hq : Blk w g 115 (rplCells rq q)) : Calls Try.prog 40 #[.pointer (some ⟨g, 0, none⟩)] w fun e w' => e = .returned (.tuple #[.int .u64 (if q.ph = 0 then q.got else 0), .int .i64 (if q.ph = 0 then q.er else 8)]) ∧ ∃ n, w' = w.drewN n := by
  have a2 : w.cell? ⟨g, 2, none⟩ = some (.int .u64 q.got) := hq.cell 2
  have a3 : w.cell? ⟨g, 3, none⟩ = some (.int .u8 q.ph) := hq.cell 3
  have a4 : w.cell? ⟨g, 4, none⟩ = some (.int .i64 q.er) := hq.cell 4
  clear hq
  by_cases h0 : q.ph = 0
  · have b0 : (q.ph != 0) = false := by rw [bne_eq_false_iff_eq]; exact h0
    rw [if_pos h0, if_pos h0]
    clear h0
    go_enter Try.func40, Try.ntmps40
    go_wp2_with fail
    first | (go_quiet (fail); go_wp2_with fail; go_ret2; exact ⟨rfl, _, rfl⟩) | (go_ret2; exact ⟨rfl, 0, rfl⟩)
  · have b0 : (q.ph != 0) = true := by rw [bne_iff_ne]; exact h0
    rw [if_neg h0, if_neg h0]
    clear h0
    go_enter Try.func40, Try.ntmps40
    go_wp2_with fail
    go_ret2
    exact ⟨rfl, 0, rfl⟩
end
end Go.Proofs.Ytpkjjlahmjijnaa
