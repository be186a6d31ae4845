/- The reference's feed: memory, small functions. -/
import Derived.Test.YtonjbofdmmnpdaaFeedA
import Derived.Test.YtonjbofdmmnpdaaBothA
import Derived.IntWalk
namespace Go.Proofs.Ytonjbofdmmnpdaa
open Go.RowKit
set_option linter.unusedVariables false
set_option linter.unusedSimpArgs false
set_option linter.unusedSectionVars false

def rfdCells (rp : Nat) (F : Fd) : Array Value := #[.pointer (some ⟨rp, 0, none⟩), .int .i64 F.first, .int .i64 F.n, .int .u64 F.last, .bool F.pushing, .bool F.receiving]
def rpdCells (rf : Nat) (q : Pd) : Array Value := #[.pointer (some ⟨rf, 0, none⟩), .int .i64 q.t, .int .u64 q.p, .int .u64 q.l, .int .u8 q.ph]
def rrdCells (rf : Nat) (r : Rd) (v : Int) : Array Value := #[.pointer (some ⟨rf, 0, none⟩), .int .i64 r.t, .int .u64 r.after, .int .u64 r.l, .int .u64 v, .bool r.lagged, .int .u8 r.ph, .int .i64 r.err]
/-- The reference's feed in memory. -/
structure RFeedM (B : Nat) (w : World) (rp vb rf : Nat) (mv : Value) (s : BS) (F : Fd) : Prop where
  b : RBank B w rp vb mv s.vs s.lg
  fd : Blk w rf 100 (rfdCells rp F)
  ok : FOk s F
  bf : B ≤ rf
section
variable {B rp vb rf : Nat} {mv : Value} {s : BS} {F : Fd} {w w' : World}
theorem RFeedM.hn (h : RFeedM B w rp vb rf mv s F) : F.first + 4 + F.n ≤ 4096 := Nat.le_trans h.ok.room h.b.hn
theorem RFeedM.ch {fp : Nat → Prop} (h : RFeedM B w rp vb rf mv s F) (c : Ch fp w w') (h1 : ∀ k, FP rp vb mv k ∨ k = rf → ¬ fp k) : RFeedM B w' rp vb rf mv s F :=
  ⟨h.b.ch c (h1 _ (.inl (.inl rfl))) (h1 _ (.inl (.inr (.inl rfl)))) (fun k hk => h1 k (.inl (.inr (.inr hk)))), c.blk h.fd (h1 _ (.inr rfl)), h.ok, h.bf⟩
theorem RFeedM.keep (h : RFeedM B w rp vb rf mv s F) (c : Ch (fun _ => False) w w') : RFeedM B w' rp vb rf mv s F := h.ch c (fun _ _ => id)
theorem RFeedM.drewN (h : RFeedM B w rp vb rf mv s F) (n : Nat) : RFeedM B (w.drewN n) rp vb rf mv s F := h.keep ((Ch.refl _ w).drewN n)
theorem rbank_drew {vs : List Int} {lg : List Acc} (h : RBank B w rp vb mv vs lg) (n : Nat) : RBank B (w.drewN n) rp vb mv vs lg := h.ch ((Ch.refl (fun _ => False) w).drewN n) id id (fun _ _ => id)
end
/-- The reference's bank, its feed and an operation, at a world on the way. -/
structure AtR (B rp vb rf rb : Nat) (mv0 mv : Value) (t : TypeId) (vs : List Int) (lg : List Acc) (fc rc : Array Value) (w0 W : World) : Prop where
  b : RBank B W rp vb mv vs lg
  f : Blk W rf 100 fc
  r : Blk W rb t rc
  c : Ch (fun b => FP rp vb mv0 b ∨ b = rf ∨ b = rb) w0 W
  z : w0.heap.size ≤ W.heap.size
  y : Fresh w0 mv0 mv
  t1 : t ≠ 82
  t2 : t ≠ 35
  t3 : t ≠ 120
  t4 : t ≠ 100
section
variable {B rp vb rf rb : Nat} {mv0 mv : Value} {t : TypeId} {vs : List Int} {lg : List Acc} {fc rc : Array Value} {w0 W : World}
theorem AtR.nf (h : AtR B rp vb rf rb mv0 mv t vs lg fc rc w0 W) : ¬ FP rp vb mv rf := h.b.out h.f (by decide) (by decide) (by decide)
theorem AtR.nr (h : AtR B rp vb rf rb mv0 mv t vs lg fc rc w0 W) : ¬ FP rp vb mv rb := h.b.out h.r h.t1 h.t2 h.t3
theorem AtR.ne (h : AtR B rp vb rf rb mv0 mv t vs lg fc rc w0 W) : rf ≠ rb := fun e => h.t4 (by have := (h.f.ne h.r (t := 100)); exact Classical.byContradiction fun hn => this (fun e' => hn e'.symm) e)
theorem RBank.off {g i : Nat} {u : Value} (h : RBank B W rp vb mv vs lg) (hg : ¬ FP rp vb mv g) : RBank B (W.setCell ⟨g, i, none⟩ u) rp vb mv vs lg :=
  h.ch ((Ch.refl (fun b => b = g) W).set (fun _ => rfl) u) (fun e => hg (.inl e.symm)) (fun e => hg (.inr (.inl e.symm))) (fun k hk e => hg (.inr (.inr (by rw [← e]; exact hk))))
theorem AtR.drewN (h : AtR B rp vb rf rb mv0 mv t vs lg fc rc w0 W) (n : Nat) : AtR B rp vb rf rb mv0 mv t vs lg fc rc w0 (W.drewN n) :=
  ⟨rbank_drew h.b n, h.f.drewN n, h.r.drewN n, h.c.drewN n, h.z, h.y, h.t1, h.t2, h.t3, h.t4⟩
theorem AtR.putR (h : AtR B rp vb rf rb mv0 mv t vs lg fc rc w0 W) (i : Nat) (u : Value) : AtR B rp vb rf rb mv0 mv t vs lg fc (rc.setIfInBounds i u) w0 (W.setCell ⟨rb, i, none⟩ u) :=
  ⟨h.b.off h.nr, h.f.far (p := ⟨rb, i, none⟩) h.ne _, h.r.put i u, h.c.set (fun _ => .inr (.inr rfl)) u, by simpa using h.z, h.y, h.t1, h.t2, h.t3, h.t4⟩
theorem AtR.putF (h : AtR B rp vb rf rb mv0 mv t vs lg fc rc w0 W) (i : Nat) (u : Value) : AtR B rp vb rf rb mv0 mv t vs lg (fc.setIfInBounds i u) rc w0 (W.setCell ⟨rf, i, none⟩ u) :=
  ⟨h.b.off h.nf, h.f.put i u, h.r.far (p := ⟨rf, i, none⟩) (Ne.symm h.ne) _, h.c.set (fun _ => .inr (.inl rfl)) u, by simpa using h.z, h.y, h.t1, h.t2, h.t3, h.t4⟩
/-- Behind a method of the bank. -/
theorem AtR.call {s' : BS} {W' : World} (h : AtR B rp vb rf rb mv0 mv t vs lg fc rc w0 W) (hs : RStep B W W' rp vb mv s') : ∃ mv', AtR B rp vb rf rb mv0 mv' t s'.vs s'.lg fc rc w0 W' := by
  obtain ⟨mv', hb, hc, hf⟩ := hs
  refine ⟨mv', hb, hc.blk h.f h.nf, hc.blk h.r h.nr, ?_, Nat.le_trans h.z hc.size, ?_, h.t1, h.t2, h.t3, h.t4⟩
  · refine h.c.trans hc (fun b hb hfb => .inl ?_)
    rcases hfb with e | e | e
    · exact .inl e
    · exact .inr (.inl e)
    · rcases h.y with y | y
      · exact .inr (.inr (by rw [← y]; exact e))
      · have := y b e; omega
  · rcases hf with e | e
    · rcases h.y with y | y
      · exact .inl (e.trans y)
      · exact .inr fun b hb => y b (by rw [← e]; exact hb)
    · exact .inr fun b hb => Nat.le_trans h.z (e b hb)
end
theorem AtR.start {B rp vb rf rb : Nat} {mv : Value} {t : TypeId} {s : BS} {F : Fd} {rc : Array Value} {w : World} (h : RFeedM B w rp vb rf mv s F) (hr : Blk w rb t rc) (h1 : t ≠ 82 := by decide) (h2 : t ≠ 35 := by decide) (h3 : t ≠ 120 := by decide) (h4 : t ≠ 100 := by decide) :
    AtR B rp vb rf rb mv mv t s.vs s.lg (rfdCells rp F) rc w w := ⟨h.b, h.fd, hr, Ch.refl _ _, Nat.le_refl _, .inl rfl, h1, h2, h3, h4⟩
section
variable (B rp vb rf : Nat) (mv : Value) (s : BS) (F : Fd) (w : World) (h : RFeedM B w rp vb rf mv s F)
include h
set_option maxHeartbeats 400000 in
theorem rhead_any : Calls Try.prog 72 #[.pointer (some ⟨rf, 0, none⟩)] w fun e w' => e = .returned (.int .u64 (cHead s F)) ∧ ∃ n, w' = w.drewN n := by
  have f0 : w.cell? ⟨rf, 0, none⟩ = some (.pointer (some ⟨rp, 0, none⟩)) := h.fd.cell 0
  have f1 : w.cell? ⟨rf, 1, none⟩ = some (.int .i64 F.first) := h.fd.cell 1
  have hn := h.hn
  have hn1 := h.ok.n1
  have hn2 := h.ok.n2
  have hroom := h.ok.room
  have r0 : w.cell? ⟨rp, 0, none⟩ = some (.slice (some ⟨vb, 0, none⟩) s.vs.length s.vs.length) := h.b.hp.cell 0
  have d2 : decide (F.first + 2 < s.vs.length) = true := decide_eq_true (by omega)
  have v2 : w.cell? ⟨vb, F.first + 2, none⟩ = some (.int .u64 (cHead s F)) := (h.b.hc.cell (F.first + 2)).trans (u64s_getD s.vs (F.first + 2) (by omega))
  clear h
  go_enter Try.func72, Try.ntmps72
  go_wp2_with fail
  first | (go_quiet (fail); go_wp2_with fail) | skip
  go_ret
  exact ⟨by first | rfl | trivial, by first | exact ⟨_, rfl⟩ | exact ⟨0, rfl⟩⟩
theorem rhead_q (k : Nat) : Calls Try.prog 72 #[.pointer (some ⟨rf, 0, none⟩)] (w.drewN k) fun e w'' => e = .returned (.int .u64 (cHead s F)) ∧ ∃ m, w'' = w.drewN m :=
  Calls.quiet_of (rhead_any B rp vb rf mv s F (w.drewN k) (h.drewN k))
set_option maxHeartbeats 400000 in
theorem rtail_any : Calls Try.prog 70 #[.pointer (some ⟨rf, 0, none⟩)] w fun e w' => e = .returned (.int .u64 (cTail s F)) ∧ ∃ n, w' = w.drewN n := by
  have f0 : w.cell? ⟨rf, 0, none⟩ = some (.pointer (some ⟨rp, 0, none⟩)) := h.fd.cell 0
  have f1 : w.cell? ⟨rf, 1, none⟩ = some (.int .i64 F.first) := h.fd.cell 1
  have hn := h.hn
  have hn1 := h.ok.n1
  have hn2 := h.ok.n2
  have hroom := h.ok.room
  have r0 : w.cell? ⟨rp, 0, none⟩ = some (.slice (some ⟨vb, 0, none⟩) s.vs.length s.vs.length) := h.b.hp.cell 0
  have d3 : decide (F.first + 3 < s.vs.length) = true := decide_eq_true (by omega)
  have v3 : w.cell? ⟨vb, F.first + 3, none⟩ = some (.int .u64 (cTail s F)) := (h.b.hc.cell (F.first + 3)).trans (u64s_getD s.vs (F.first + 3) (by omega))
  clear h
  go_enter Try.func70, Try.ntmps70
  go_wp2_with fail
  first | (go_quiet (fail); go_wp2_with fail) | skip
  go_ret
  exact ⟨by first | rfl | trivial, by first | exact ⟨_, rfl⟩ | exact ⟨0, rfl⟩⟩
theorem rtail_q (k : Nat) : Calls Try.prog 70 #[.pointer (some ⟨rf, 0, none⟩)] (w.drewN k) fun e w'' => e = .returned (.int .u64 (cTail s F)) ∧ ∃ m, w'' = w.drewN m :=
  Calls.quiet_of (rtail_any B rp vb rf mv s F (w.drewN k) (h.drewN k))
set_option maxHeartbeats 1000000 in
theorem rfent_any (i : Int) (hi : 0 ≤ i ∧ i < 18446744073709551616) : Calls Try.prog 71 #[.pointer (some ⟨rf, 0, none⟩), .int .u64 i] w fun e w' => e = .returned (.int .i64 (F.ent i : Nat)) ∧ ∃ n, w' = w.drewN n := by
  have f1 : w.cell? ⟨rf, 1, none⟩ = some (.int .i64 F.first) := h.fd.cell 1
  have f2 : w.cell? ⟨rf, 2, none⟩ = some (.int .i64 F.n) := h.fd.cell 2
  have hn := h.hn
  have hn1 := h.ok.n1
  have hn2 := h.ok.n2
  have hroom := h.ok.room
  have m0 := Int.emod_nonneg i (show (F.n : Int) ≠ 0 by omega)
  have m1 := Int.emod_lt_of_pos i (show (0 : Int) < (F.n : Int) by omega)
  have hz : ¬ (F.n : Int) = 0 := by omega
  have hz' : ((F.n : Int) == 0) = false := by rw [beq_eq_false_iff_ne]; exact hz
  have hi0 := hi.1
  have hfin : (F.first : Int) + 4 + i % (F.n : Int) = ((F.ent i : Nat) : Int) := by unfold Fd.ent; omega
  have hcv : IntKind.u64.wrap (F.n : Int) = (F.n : Int) := by rw [w64_wrap]; unfold w64; omega
  have hcv2 : IntKind.i64.wrap (i % (F.n : Int)) = i % (F.n : Int) := IntWalk.i64_in _ (by omega)
  have hcv4 : IntKind.i64.wrap ((F.first : Int) + 4) = (F.first : Int) + 4 := IntWalk.i64_in _ (by omega)
  have hcv3 : IntKind.i64.wrap ((F.first : Int) + 4 + i % (F.n : Int)) = (F.first : Int) + 4 + i % (F.n : Int) := IntWalk.i64_in _ (by omega)
  have htm : i.tmod (F.n : Int) = i % (F.n : Int) := Int.tmod_eq_emod_of_nonneg hi0
  have HF := hid hfin
  clear h hfin hi
  go_enter Try.func71, Try.ntmps71
  go_wp2_with fail
  go_quiet (fail)
  go_wp2_with fail
  go_ret
  rw [← HF.out]
  exact ⟨by first | rfl | trivial, _, rfl⟩
theorem rfent_q (i : Int) (hi : 0 ≤ i ∧ i < 18446744073709551616) (k : Nat) :
    Calls Try.prog 71 #[.pointer (some ⟨rf, 0, none⟩), .int .u64 i] (w.drewN k) fun e w'' => e = .returned (.int .i64 (F.ent i : Nat)) ∧ ∃ m, w'' = w.drewN m :=
  Calls.quiet_of (rfent_any B rp vb rf mv s F (w.drewN k) (h.drewN k) i hi)
set_option maxHeartbeats 400000 in
theorem rfact_any : Calls Try.prog 46 #[.pointer (some ⟨rf, 0, none⟩)] w fun e w' => e = .returned (.bool (cAct s F != 0)) ∧ ∃ n, w' = w.drewN n := by
  have f0 : w.cell? ⟨rf, 0, none⟩ = some (.pointer (some ⟨rp, 0, none⟩)) := h.fd.cell 0
  have f1 : w.cell? ⟨rf, 1, none⟩ = some (.int .i64 F.first) := h.fd.cell 1
  have hn := h.hn
  have hn1 := h.ok.n1
  have hn2 := h.ok.n2
  have hroom := h.ok.room
  have r0 : w.cell? ⟨rp, 0, none⟩ = some (.slice (some ⟨vb, 0, none⟩) s.vs.length s.vs.length) := h.b.hp.cell 0
  have d0 : decide (F.first < s.vs.length) = true := decide_eq_true (by omega)
  have v0 : w.cell? ⟨vb, F.first, none⟩ = some (.int .u64 (cAct s F)) := (h.b.hc.cell F.first).trans (u64s_getD s.vs F.first (by omega))
  clear h
  go_enter Try.func46, Try.ntmps46
  go_wp2_with fail
  first | (go_quiet (fail); go_wp2_with fail) | skip
  go_ret
  exact ⟨by first | rfl | trivial, by first | exact ⟨_, rfl⟩ | exact ⟨0, rfl⟩⟩
theorem rfact_q (k : Nat) : Calls Try.prog 46 #[.pointer (some ⟨rf, 0, none⟩)] (w.drewN k) fun e w'' => e = .returned (.bool (cAct s F != 0)) ∧ ∃ m, w'' = w.drewN m :=
  Calls.quiet_of (rfact_any B rp vb rf mv s F (w.drewN k) (h.drewN k))
set_option maxHeartbeats 400000 in
theorem rflag_any : Calls Try.prog 47 #[.pointer (some ⟨rf, 0, none⟩)] w fun e w' => e = .returned (.int .u64 (cLag s F)) ∧ ∃ n, w' = w.drewN n := by
  have f0 : w.cell? ⟨rf, 0, none⟩ = some (.pointer (some ⟨rp, 0, none⟩)) := h.fd.cell 0
  have f1 : w.cell? ⟨rf, 1, none⟩ = some (.int .i64 F.first) := h.fd.cell 1
  have hn := h.hn
  have hn1 := h.ok.n1
  have hn2 := h.ok.n2
  have hroom := h.ok.room
  have r0 : w.cell? ⟨rp, 0, none⟩ = some (.slice (some ⟨vb, 0, none⟩) s.vs.length s.vs.length) := h.b.hp.cell 0
  have d1 : decide (F.first + 1 < s.vs.length) = true := decide_eq_true (by omega)
  have v1 : w.cell? ⟨vb, F.first + 1, none⟩ = some (.int .u64 (cLag s F)) := (h.b.hc.cell (F.first + 1)).trans (u64s_getD s.vs (F.first + 1) (by omega))
  clear h
  go_enter Try.func47, Try.ntmps47
  go_wp2_with fail
  first | (go_quiet (fail); go_wp2_with fail) | skip
  go_ret
  exact ⟨by first | rfl | trivial, by first | exact ⟨_, rfl⟩ | exact ⟨0, rfl⟩⟩
theorem rflag_q (k : Nat) : Calls Try.prog 47 #[.pointer (some ⟨rf, 0, none⟩)] (w.drewN k) fun e w'' => e = .returned (.int .u64 (cLag s F)) ∧ ∃ m, w'' = w.drewN m :=
  Calls.quiet_of (rflag_any B rp vb rf mv s F (w.drewN k) (h.drewN k))
end
theorem thread_any (t : Int) (w : World) : Calls Try.prog 67 #[.int .i64 t] w fun e w' => e = .returned (.bool (decide (0 ≤ t ∧ t < 16))) ∧ w = w' := by
  by_cases h0 : 0 ≤ t
  · by_cases h1 : t < 16
    · have d1 : decide (0 ≤ t) = true := decide_eq_true h0
      have d2 : decide (t < 16) = true := decide_eq_true h1
      rw [decide_eq_true (show 0 ≤ t ∧ t < 16 from ⟨h0, h1⟩)]
      go_enter Try.func67, Try.ntmps67
      go_wp2_with fail
      go_ret
      exact ⟨rfl, rfl⟩
    · have d1 : decide (0 ≤ t) = true := decide_eq_true h0
      have d2 : decide (t < 16) = false := decide_eq_false h1
      rw [decide_eq_false (show ¬ (0 ≤ t ∧ t < 16) from fun e => h1 e.2)]
      go_enter Try.func67, Try.ntmps67
      go_wp2_with fail
      go_ret
      exact ⟨rfl, rfl⟩
  · have d1 : decide (0 ≤ t) = false := decide_eq_false h0
    rw [decide_eq_false (show ¬ (0 ≤ t ∧ t < 16) from fun e => h0 e.1)]
    go_enter Try.func67, Try.ntmps67
    go_wp2_with fail
    go_ret
    exact ⟨rfl, rfl⟩
/-- An operation was begun: its block is new, the feed's own block alone has changed. -/
def RFBegun (B rp vb rf : Nat) (mv : Value) (s : BS) (F' : Fd) (t : TypeId) (oc : Array Value) (w : World) (e : Ending) (w' : World) : Prop :=
  ∃ g, e = .returned (.tuple #[.pointer (some ⟨g, 0, none⟩), .int .i64 0]) ∧ RFeedM B w' rp vb rf mv s F' ∧ Blk w' g t oc ∧ Ch (fun b => b = rf) w w' ∧ w.heap.size ≤ g
section
variable (B rp vb rf : Nat) (mv : Value) (s : BS) (F : Fd) (w : World) (h : RFeedM B w rp vb rf mv s F) (t v : Int)
include h
theorem rfset1 (i : Nat) (u : Value) (F' : Fd) (hc : (rfdCells rp F).setIfInBounds i u = rfdCells rp F') (ho : FOk s F') : RFeedM B (w.setCell ⟨rf, i, none⟩ u) rp vb rf mv s F' := by
  have n1 := h.b.out h.fd (by decide) (by decide) (by decide)
  exact ⟨h.b.off n1, by rw [← hc]; exact h.fd.put i u, ho, h.bf⟩
theorem rfpush_ok (ht : 0 ≤ t ∧ t < 16) (hv0 : v ≠ 0) (hv : F.last < v) (hp : F.pushing = false) : Calls Try.prog 38 #[.pointer (some ⟨rf, 0, none⟩), .int .i64 t, .int .u64 v] w (RFBegun B rp vb rf mv s { F with last := v, pushing := true } 116 (rpdCells rf ⟨t, 26, v, 0⟩) w) := by
  have f3 : w.cell? ⟨rf, 3, none⟩ = some (.int .u64 F.last) := h.fd.cell 3
  have f4 : w.cell? ⟨rf, 4, none⟩ = some (.bool F.pushing) := h.fd.cell 4
  have g3 := h.fd.free 3
  have g4 := h.fd.free 4
  have b0 : (v == 0) = false := by rw [beq_eq_false_iff_ne]; exact hv0
  have b1 : decide (v ≤ F.last) = false := decide_eq_false (by omega)
  rw [hp] at f4
  have nw : rf ≠ w.heap.size := Nat.ne_of_lt h.fd.lt
  have H := hid h
  clear h hp hv
  go_enter Try.func38, Try.ntmps38
  go_wp2_with fail
  refine (thread_any t _).mono ?_
  rintro e w1 ⟨rfl, rfl⟩
  rw [decide_eq_true ht]
  go_wp2_with fail
  go_ret2
  have m1 := rfset1 B rp vb rf mv s F w H.out 4 (.bool true) { F with pushing := true } rfl ⟨H.out.ok.room, H.out.ok.n1, H.out.ok.n2⟩
  have m2 := rfset1 B rp vb rf mv s { F with pushing := true } _ m1 3 (.int .u64 v) { F with last := v, pushing := true } rfl ⟨H.out.ok.room, H.out.ok.n1, H.out.ok.n2⟩
  have c : Ch (fun b => b = rf) w ((w.setCell ⟨rf, 4, none⟩ (.bool true)).setCell ⟨rf, 3, none⟩ (.int .u64 v)) := ((Ch.refl (fun b => b = rf) w).set (fun _ => rfl) _).set (fun _ => rfl) _
  have e : ((w.setCell ⟨rf, 4, none⟩ (.bool true)).setCell ⟨rf, 3, none⟩ (.int .u64 v)).heap.size = w.heap.size := by simp [World.setCell]
  have hb := Blk.new ((w.setCell ⟨rf, 4, none⟩ (.bool true)).setCell ⟨rf, 3, none⟩ (.int .u64 v)) 116 (rpdCells rf ⟨t, 26, v, 0⟩)
  rw [e] at hb
  exact ⟨_, rfl, m2.keep ((Ch.refl _ _).alloc _), hb, c.alloc _, by simp⟩
theorem rfpush_arg (hb : ¬ (0 ≤ t ∧ t < 16) ∨ v = 0 ∨ v ≤ F.last) : Calls Try.prog 38 #[.pointer (some ⟨rf, 0, none⟩), .int .i64 t, .int .u64 v] w fun e w' => e = .returned (.tuple #[.pointer none, .int .i64 2]) ∧ w = w' := by
  have f3 : w.cell? ⟨rf, 3, none⟩ = some (.int .u64 F.last) := h.fd.cell 3
  clear h
  by_cases ht : 0 ≤ t ∧ t < 16
  · by_cases h0 : v = 0
    · subst h0
      go_enter Try.func38, Try.ntmps38
      go_wp2_with fail
      refine (thread_any t _).mono ?_
      rintro e w1 ⟨rfl, rfl⟩
      rw [decide_eq_true ht]
      go_wp2_with fail
      go_ret2
      exact ⟨rfl, rfl⟩
    · have b0 : (v == 0) = false := by rw [beq_eq_false_iff_ne]; exact h0
      have b1 : decide (v ≤ F.last) = true := decide_eq_true (by omega)
      go_enter Try.func38, Try.ntmps38
      go_wp2_with fail
      refine (thread_any t _).mono ?_
      rintro e w1 ⟨rfl, rfl⟩
      rw [decide_eq_true ht]
      go_wp2_with fail
      go_ret2
      exact ⟨rfl, rfl⟩
  · go_enter Try.func38, Try.ntmps38
    go_wp2_with fail
    refine (thread_any t _).mono ?_
    rintro e w1 ⟨rfl, rfl⟩
    rw [decide_eq_false ht]
    go_wp2_with fail
    go_ret2
    exact ⟨rfl, rfl⟩
theorem rfpush_busy (ht : 0 ≤ t ∧ t < 16) (hv0 : v ≠ 0) (hv : F.last < v) (hp : F.pushing = true) : Calls Try.prog 38 #[.pointer (some ⟨rf, 0, none⟩), .int .i64 t, .int .u64 v] w fun e w' => e = .returned (.tuple #[.pointer none, .int .i64 8]) ∧ w = w' := by
  have f3 : w.cell? ⟨rf, 3, none⟩ = some (.int .u64 F.last) := h.fd.cell 3
  have f4 : w.cell? ⟨rf, 4, none⟩ = some (.bool F.pushing) := h.fd.cell 4
  have b0 : (v == 0) = false := by rw [beq_eq_false_iff_ne]; exact hv0
  have b1 : decide (v ≤ F.last) = false := decide_eq_false (by omega)
  rw [hp] at f4
  clear h hp hv
  go_enter Try.func38, Try.ntmps38
  go_wp2_with fail
  refine (thread_any t _).mono ?_
  rintro e w1 ⟨rfl, rfl⟩
  rw [decide_eq_true ht]
  go_wp2_with fail
  go_ret2
  exact ⟨rfl, rfl⟩
theorem rfrecv_ok (ht : 0 ≤ t ∧ t < 16) (hp : F.receiving = false) : Calls Try.prog 39 #[.pointer (some ⟨rf, 0, none⟩), .int .i64 t, .int .u64 v] w (RFBegun B rp vb rf mv s { F with receiving := true } 118 (rrdCells rf ⟨t, 14, v, 0, 0, false, 0⟩ 0) w) := by
  have f5 : w.cell? ⟨rf, 5, none⟩ = some (.bool F.receiving) := h.fd.cell 5
  have g5 := h.fd.free 5
  rw [hp] at f5
  have nw : rf ≠ w.heap.size := Nat.ne_of_lt h.fd.lt
  have H := hid h
  clear h hp
  go_enter Try.func39, Try.ntmps39
  go_wp2_with fail
  refine (thread_any t _).mono ?_
  rintro e w1 ⟨rfl, rfl⟩
  rw [decide_eq_true ht]
  go_wp2_with fail
  go_ret2
  have m1 := rfset1 B rp vb rf mv s F w H.out 5 (.bool true) { F with receiving := true } rfl ⟨H.out.ok.room, H.out.ok.n1, H.out.ok.n2⟩
  have c : Ch (fun b => b = rf) w (w.setCell ⟨rf, 5, none⟩ (.bool true)) := (Ch.refl (fun b => b = rf) w).set (fun _ => rfl) _
  have e : (w.setCell ⟨rf, 5, none⟩ (.bool true)).heap.size = w.heap.size := by simp [World.setCell]
  have hb := Blk.new (w.setCell ⟨rf, 5, none⟩ (.bool true)) 118 (rrdCells rf ⟨t, 14, v, 0, 0, false, 0⟩ 0)
  rw [e] at hb
  exact ⟨_, rfl, m1.keep ((Ch.refl _ _).alloc _), hb, c.alloc _, by simp⟩
theorem rfrecv_arg (hb : ¬ (0 ≤ t ∧ t < 16)) : Calls Try.prog 39 #[.pointer (some ⟨rf, 0, none⟩), .int .i64 t, .int .u64 v] w fun e w' => e = .returned (.tuple #[.pointer none, .int .i64 2]) ∧ w = w' := by
  clear h
  go_enter Try.func39, Try.ntmps39
  go_wp2_with fail
  refine (thread_any t _).mono ?_
  rintro e w1 ⟨rfl, rfl⟩
  rw [decide_eq_false hb]
  go_wp2_with fail
  go_ret2
  exact ⟨rfl, rfl⟩
theorem rfrecv_busy (ht : 0 ≤ t ∧ t < 16) (hp : F.receiving = true) : Calls Try.prog 39 #[.pointer (some ⟨rf, 0, none⟩), .int .i64 t, .int .u64 v] w fun e w' => e = .returned (.tuple #[.pointer none, .int .i64 8]) ∧ w = w' := by
  have f5 : w.cell? ⟨rf, 5, none⟩ = some (.bool F.receiving) := h.fd.cell 5
  rw [hp] at f5
  clear h hp
  go_enter Try.func39, Try.ntmps39
  go_wp2_with fail
  refine (thread_any t _).mono ?_
  rintro e w1 ⟨rfl, rfl⟩
  rw [decide_eq_true ht]
  go_wp2_with fail
  go_ret2
  exact ⟨rfl, rfl⟩
end
section
variable (rf g : Nat) (w : World)
theorem rpnext_any (q : Pd) (hq : Blk w g 116 (rpdCells rf q)) : Calls Try.prog 44 #[.pointer (some ⟨g, 0, none⟩)] w fun e w' => e = .returned (.int .u8 q.ph) ∧ w = w' := by
  have a4 : w.cell? ⟨g, 4, none⟩ = some (.int .u8 q.ph) := hq.cell 4
  clear hq
  go_enter Try.func44, Try.ntmps44
  go_wp2_with fail
  go_ret
  exact ⟨rfl, rfl⟩
theorem rrnext_any (r : Rd) (v : Int) (hq : Blk w g 118 (rrdCells rf r v)) : Calls Try.prog 45 #[.pointer (some ⟨g, 0, none⟩)] w fun e w' => e = .returned (.int .u8 r.ph) ∧ w = w' := by
  have a6 : w.cell? ⟨g, 6, none⟩ = some (.int .u8 r.ph) := hq.cell 6
  clear hq
  go_enter Try.func45, Try.ntmps45
  go_wp2_with fail
  go_ret
  exact ⟨rfl, rfl⟩
theorem rrres_any (r : Rd) (v : Int) (hq : Blk w g 118 (rrdCells rf r v)) : Calls Try.prog 43 #[.pointer (some ⟨g, 0, none⟩)] w fun e w' => e = .returned (if r.ph = 0 then .tuple #[.int .u64 v, .bool r.lagged, .int .i64 r.err] else .tuple #[.int .u64 0, .bool false, .int .i64 8]) ∧ ∃ n, w' = w.drewN n := by
  have a4 : w.cell? ⟨g, 4, none⟩ = some (.int .u64 v) := hq.cell 4
  have a5 : w.cell? ⟨g, 5, none⟩ = some (.bool r.lagged) := hq.cell 5
  have a6 : w.cell? ⟨g, 6, none⟩ = some (.int .u8 r.ph) := hq.cell 6
  have a7 : w.cell? ⟨g, 7, none⟩ = some (.int .i64 r.err) := hq.cell 7
  clear hq
  by_cases h0 : r.ph = 0
  · have b0 : (r.ph != 0) = false := by rw [bne_eq_false_iff_eq]; exact h0
    rw [if_pos h0]
    clear h0
    go_enter Try.func43, Try.ntmps43
    go_wp2_with fail
    first | (go_ret3; exact ⟨rfl, 0, rfl⟩) | (go_quiet (fail); go_wp2_with fail; go_ret3; exact ⟨rfl, _, rfl⟩)
  · have b0 : (r.ph != 0) = true := by rw [bne_iff_ne]; exact h0
    rw [if_neg h0]
    clear h0
    go_enter Try.func43, Try.ntmps43
    go_wp2_with fail
    go_ret3
    exact ⟨rfl, 0, rfl⟩
end
section
variable (B rp vb rf : Nat) (mv : Value) (s : BS) (F : Fd) (w : World) (h : RFeedM B w rp vb rf mv s F) (t : Int) (hlen : s.lg.length < 1000000) (hB : B ≤ w.heap.size)
include h
theorem rfact_arg (hb : ¬ (0 ≤ t ∧ t < 16)) : Calls Try.prog 42 #[.pointer (some ⟨rf, 0, none⟩), .int .i64 t] w fun e w' => e = .returned (.int .i64 2) ∧ ∃ n, w' = w.drewN n := by
  clear h
  go_enter Try.func42, Try.ntmps42
  go_wp2_with fail
  refine (thread_any t _).mono ?_
  rintro e w1 ⟨rfl, rfl⟩
  rw [decide_eq_false hb]
  go_wp2_with fail
  go_ret
  exact ⟨rfl, 0, rfl⟩
theorem rfact_have (ht : 0 ≤ t ∧ t < 16) (ha : cAct s F ≠ 0) : Calls Try.prog 42 #[.pointer (some ⟨rf, 0, none⟩), .int .i64 t] w fun e w' => e = .returned (.int .i64 9) ∧ ∃ n, w' = w.drewN n := by
  have b0 : (cAct s F != 0) = true := by rw [bne_iff_ne]; exact ha
  have H := hid h
  clear h ha
  go_enter Try.func42, Try.ntmps42
  go_wp2_with fail
  refine (thread_any t _).mono ?_
  rintro e w1 ⟨rfl, rfl⟩
  rw [decide_eq_true ht]
  go_wp2_with fail
  refine (rfact_any B rp vb rf mv s F _ H.out).mono ?_
  rintro e w1 ⟨rfl, n1, rfl⟩
  rw [b0]
  go_wp2_with fail
  go_ret
  exact ⟨rfl, _, rfl⟩
include hlen hB
theorem rfact_ok (ht : 0 ≤ t ∧ t < 16) (ha : cAct s F = 0) : Calls Try.prog 42 #[.pointer (some ⟨rf, 0, none⟩), .int .i64 t] w fun e w' => e = .returned (.int .i64 0) ∧ ∃ mv', RFeedM B w' rp vb rf mv' (s.store t F.first 1) F ∧ Ch (FP rp vb mv) w w' ∧ Fresh w mv mv' := by
  have b0 : (cAct s F != 0) = false := by rw [bne_eq_false_iff_eq]; exact ha
  have hn := h.hn
  have hn1 := h.ok.n1
  have hn2 := h.ok.n2
  have hroom := h.ok.room
  have H := hid h
  clear h ha
  go_enter Try.func42, Try.ntmps42
  go_wp2_with fail
  refine (thread_any t _).mono ?_
  rintro e w1 ⟨rfl, rfl⟩
  rw [decide_eq_true ht]
  go_wp2_with fail
  refine (rfact_any B rp vb rf mv s F _ H.out).mono ?_
  rintro e w1 ⟨rfl, n1, rfl⟩
  rw [b0]
  have HD := hid (H.out.drewN n1)
  have f0 : w.cell? ⟨rf, 0, none⟩ = some (.pointer (some ⟨rp, 0, none⟩)) := H.out.fd.cell 0
  have f1 : w.cell? ⟨rf, 1, none⟩ = some (.int .i64 F.first) := H.out.fd.cell 1
  go_wp2_with fail
  refine Mix.wp_region_mix (fun _ => True) (fun i => ([0, 0, 0, 0, 0, 0, 0, 0, 0, 2] : List Nat).getD i 0) [0, 1, 2, 3, 4, 5, 6, 7, 8, 9] (by kernel_rfl) (by kernel_rfl) ?_
  repeat (first | (refine Mix.mix_q (by simp only [List.getElem?_toArray, List.getElem?_cons_zero, List.getElem?_cons_succ]; exact rfl) rfl ?_; go_big_quiet_step (fail); refine wpQuiet_nil ?_) | (refine Mix.mix_p (by simp only [List.getElem?_toArray, List.getElem?_cons_zero, List.getElem?_cons_succ]; exact rfl) rfl rfl ?_; go_big_quiet_step (fail); refine wpQuiet_nil ?_))
  refine Mix.mix_e (by simp only [List.getElem?_toArray, List.getElem?_cons_zero, List.getElem?_cons_succ]; exact rfl) rfl fun W hW => ?_
  obtain ⟨n2, rfl⟩ := hW
  go_wp2_with fail
  refine calls_world fun WW hWW => ?_
  obtain ⟨nn, hnn⟩ : ∃ nn, WW = w.drewN nn := by
    rw [hWW]
    first | exact ⟨_, rfl⟩ | exact ⟨_, (World.drewN_drewN _ _ _)⟩
  rw [hnn]
  clear hWW hnn
  refine (rstore_ok B rp vb mv s t (F.first : Nat) 1 _ (rbank_drew H.out.b nn) hlen hB ⟨ht.1, ht.2, by omega, by omega⟩).mono ?_
  rintro e w2 ⟨rfl, mv', hb, hc, hf⟩
  have c1 : Ch (FP rp vb mv) w w2 := hc.ofDrewN
  have HFI := hid (show RFeedM B w2 rp vb rf mv' (s.store t F.first 1) F from ⟨hb, c1.blk H.out.fd (H.out.b.out H.out.fd (by decide) (by decide) (by decide)), ⟨by rw [store_vs, List.length_set]; exact H.out.ok.room, H.out.ok.n1, H.out.ok.n2⟩, H.out.bf⟩)
  have HC1 := hid c1
  have HFF := hid (hf : Fresh _ mv mv')
  clear hb hc hf c1 f0 f1
  go_wp2_with fail
  first | (intro n3; go_wp2_with fail) | skip
  go_ret
  exact ⟨rfl, mv', by first | exact HFI.out.drewN _ | exact HFI.out, by first | exact HC1.out.drewN _ | exact HC1.out, HFF.out⟩
end
set_option maxRecDepth 100000 in
set_option maxHeartbeats 1000000 in
theorem rflist_any (B rp vb rf : Nat) (mv : Value) (s : BS) (F : Fd) (w : World) (h : RFeedM B w rp vb rf mv s F) (h0 : 0 ≤ cHead s F) (h1 : cHead s F ≤ cTail s F) (h2 : cTail s F ≤ 1000000) : Calls Try.prog 49 #[.pointer (some ⟨rf, 0, none⟩)] w fun e w' => FreshRow w w' (flist s F) e := by
  obtain ⟨i0, hi, hz0, hz1, hz2⟩ := info_parts Try.infoU64
  obtain ⟨H, hHn⟩ := Int.eq_ofNat_of_zero_le h0
  obtain ⟨T, hTn⟩ := Int.eq_ofNat_of_zero_le (Int.le_trans h0 h1)
  obtain ⟨m, hm⟩ : ∃ m, m = T - H := ⟨_, rfl⟩
  have hfl : flist s F = (List.range m).map fun (j : Nat) => lk s.vs (F.ent ((H : Int) + (j : Int))) := by
    unfold flist
    rw [hHn, hTn, show ((T : Int) - (H : Int)).toNat = m by omega]
  obtain ⟨g, hg⟩ : ∃ g : Nat → Int, g = fun (j : Nat) => lk s.vs (F.ent ((H : Int) + (j : Int))) := ⟨_, rfl⟩
  rw [← hg] at hfl
  have hgj : ∀ j : Nat, g j = lk s.vs (F.ent ((H : Int) + (j : Int))) := fun j => by rw [hg]
  rw [hfl]
  have Hg := hid hgj
  have HHN := hid hHn
  have HTN := hid hTn
  rw [hTn] at h1 h2
  rw [hHn] at h1
  have hT6 : T ≤ 1000000 := by omega
  have hH6 : H ≤ T := by omega
  have hmle : m ≤ T := by omega
  have HM := hid hm
  clear hfl hg hgj hHn hTn h0 h1 h2 hm
  go_enter Try.func49, Try.ntmps49
  go_wp2_with fail
  refine (rhead_any B rp vb rf mv s F w h).mono ?_
  rintro e w1 ⟨rfl, n1, rfl⟩
  rw [HHN.out]
  go_wp2_with fail
  go_loopw [3, 4] (fun v i wr => ∃ j : Nat, j ≤ m ∧ i = .int .u64 ((H : Int) + (j : Int)) ∧ wr.ownsRow w.heap.size 35 1 v j ((((List.range m).map g).take j).map (Value.int .u64)) ∧ Ch (fun _ => False) w wr) (fun _ i _ => T - (intOf i).toNat)
  case atStart => exact ⟨0, by omega, by simp, World.ownsRow_nil _ _ _ _, (Ch.refl _ _).drewN _⟩
  case round =>
    obtain ⟨j, hj, rfl, hown, hch⟩ := hrel
    obtain ⟨A0, cap0, hv0, _⟩ := own_slice hown
    subst hv0
    have HF := hid (h.keep hch)
    by_cases hlt : j < m
    · have hTm : T = H + m := by have := HM.out; omega
      have hne : decide (((H : Int) + (j : Int)) < (T : Int)) = true := decide_eq_true (by omega)
      have hw1 : IntKind.u64.wrap ((H : Int) + (j : Int) + 1) = (H : Int) + (j : Int) + 1 := by rw [w64_wrap]; unfold w64; omega
      have HTM := hid hTm
      have HOWN := hid hown
      clear hTm hown
      go_wp2_with fail
      refine (rtail_any B rp vb rf mv s F wr HF.out).mono ?_
      rintro e wt ⟨rfl, n2, hwt⟩
      rw [HTN.out]
      have HFt := hid (show RFeedM B wt rp vb rf mv s F by rw [hwt]; exact HF.out.drewN n2)
      have hcht : Ch (fun _ => False) w wt := by rw [hwt]; exact hch.drewN n2
      have hownt : wt.ownsRow w.heap.size 35 1 (.slice A0 j cap0) j ((((List.range m).map g).take j).map (Value.int .u64)) := by rw [hwt]; exact ((Ch.refl (fun _ => False) wr).drewN n2).own HOWN.out (fun _ _ => id)
      clear hwt HF HOWN hch
      have hel := ent_lt HFt.out.ok ((H : Int) + (j : Int))
      have de : decide (F.ent ((H : Int) + (j : Int)) < s.vs.length) = true := decide_eq_true hel
      obtain ⟨c, hc⟩ : ∃ c, c = F.ent ((H : Int) + (j : Int)) := ⟨_, rfl⟩
      rw [← hc] at hel de
      have HC := hid hc
      have f0 : wt.cell? ⟨rf, 0, none⟩ = some (.pointer (some ⟨rp, 0, none⟩)) := HFt.out.fd.cell 0
      have r0 : wt.cell? ⟨rp, 0, none⟩ = some (.slice (some ⟨vb, 0, none⟩) s.vs.length s.vs.length) := HFt.out.b.hp.cell 0
      have ve : wt.cell? ⟨vb, c, none⟩ = some (.int .u64 (g j)) := by rw [Hg.out j, ← hc]; exact (HFt.out.b.hc.cell c).trans (u64s_getD s.vs c hel)
      clear hc
      go_wp2_with fail
      obtain ⟨S, hS⟩ : ∃ S : Nat → Prop, ∀ k, S k ↔ k < wt.heap.size := ⟨_, fun _ => Iff.rfl⟩
      have HS := hid hS
      clear hS
      refine Mix.wp_region_mix S (fun i => ([1, 0, 0, 0, 0, 0, 0, 0, 0, 0, 0, 0, 0, 3, 2, 0] : List Nat).getD i 0) [0, 1, 2, 3, 4, 5, 6, 7, 8, 9, 10, 11, 12, 13, 14, 15] (by kernel_rfl) (by kernel_rfl) ?_
      refine Mix.mix_world fun W0 hW0 => ?_
      have HF0 := hid (show RFeedM B W0 rp vb rf mv s F by rw [hW0]; first | exact HFt.out | exact HFt.out.drewN _)
      have f0 : W0.cell? ⟨rf, 0, none⟩ = some (.pointer (some ⟨rp, 0, none⟩)) := HF0.out.fd.cell 0
      have r0 : W0.cell? ⟨rp, 0, none⟩ = some (.slice (some ⟨vb, 0, none⟩) s.vs.length s.vs.length) := HF0.out.b.hp.cell 0
      have ve : W0.cell? ⟨vb, c, none⟩ = some (.int .u64 (g j)) := by rw [Hg.out j, ← HC.out]; exact (HF0.out.b.hc.cell c).trans (u64s_getD s.vs c hel)
      have hch0 : Ch (fun _ => False) w W0 := by rw [hW0]; first | exact hcht | exact hcht.drewN _
      have hown0 : W0.ownsRow w.heap.size 35 1 (.slice A0 j cap0) j ((((List.range m).map g).take j).map (Value.int .u64)) := by rw [hW0]; first | exact hownt | exact ((Ch.refl (fun _ => False) wt).drewN _).own hownt (fun _ _ => id)
      have hz0w : W0.heap.size = wt.heap.size := by rw [hW0]; try rfl
      clear hW0 hcht hownt
      have HENT : ∀ k, Calls Try.prog 71 #[.pointer (some ⟨rf, 0, none⟩), .int .u64 ((H : Int) + (j : Int))] (W0.drewN k) fun e w'' => e = .returned (.int .i64 (c : Nat)) ∧ ∃ m, w'' = W0.drewN m := fun k => by
        rw [HC.out]
        exact rfent_q B rp vb rf mv s F W0 HF0.out ((H : Int) + (j : Int)) ⟨by omega, by omega⟩ k
      have HE := hid HENT
      clear HENT
      have HZ0 := hid hz0w
      clear hz0w
      repeat (first | (refine Mix.mix_q (by simp only [List.getElem?_toArray, List.getElem?_cons_zero, List.getElem?_cons_succ]; exact rfl) rfl ?_; go_big_quiet_step ((go_at_call 71; exact HE.out _)); refine wpQuiet_nil ?_) | (refine Mix.mix_p (by simp only [List.getElem?_toArray, List.getElem?_cons_zero, List.getElem?_cons_succ]; exact rfl) rfl rfl ?_; go_big_quiet_step (fail); refine wpQuiet_nil ?_) | (refine Mix.mix_s (by simp only [List.getElem?_toArray, List.getElem?_cons_zero, List.getElem?_cons_succ]; exact rfl) rfl rfl ?_; go_big_quiet_step (fail); refine wpQuiet_nil ?_))
      refine Mix.mix_a (by simp only [List.getElem?_toArray, List.getElem?_cons_zero, List.getElem?_cons_succ]; exact rfl) rfl fun W1 hW1 => ?_
      obtain ⟨n3, rfl⟩ := hW1
      go_wp2_with fail
      refine ⟨fun k hk => Below.heap_alloc _ _ k (by rw [show (W0.drewN n3).heap.size = W0.heap.size from rfl, HZ0.out]; exact (HS.out k).1 hk), Mix.mix_world fun W2 hW2 => ?_⟩
      have cW : Ch (fun _ => False) W0 W2 := by rw [hW2]; first | exact Ch.push rfl rfl rfl rfl | exact ((Ch.refl _ W0).drewN n3).alloc _
      have nW : Blk W2 W0.heap.size 35 #[.int .u64 (g j)] := by rw [hW2]; first | exact Blk.push rfl | exact Blk.new (W0.drewN n3) _ _
      clear hW2
      refine Mix.mix_e (by simp only [List.getElem?_toArray, List.getElem?_cons_zero, List.getElem?_cons_succ]; exact rfl) rfl fun W3 hW3 => ?_
      obtain ⟨n4, rfl⟩ := hW3
      refine wpList_app _ rfl _ _ 30 rfl w.heap.size 35 i0 _ 1 8 Try.underlying30 hi hz0 hz1 hz2 rfl (by decide) _ _ _ rfl ((cW.drewN n4).own hown0 (fun _ _ => id)) ⟨W0.heap.size, 0, none⟩ 1 1 [.int .u64 (g j)] rfl rfl ?c1 ?c2 (by decide) ?c3 ?c4 ?c5 ?_
      case c1 => intro j' u hu; rw [addr_add0]; exact ((nW.drewN n4).cell j').trans (by simpa using hu)
      case c2 => intro u hu; simp at hu; subst hu; rfl
      case c3 => unfold maxLen; omega
      case c4 => omega
      case c5 => exact Nat.le_trans hch0.size cW.size
      intro v' w' hown' hgrow hfresh
      have hch' : Ch (fun _ => False) w w' := ((hch0.trans cW (fun _ _ h => h)).drewN n4).grown hgrow (fun g hg hlt => (Nat.lt_irrefl _ (Nat.lt_of_lt_of_le hlt (hown0.lt g hg).1)).elim)
      clear cW nW hgrow hfresh hown0 f0 r0 ve
      go_wp2_with fail
      repeat (first | (refine Mix.mix_q (by simp only [List.getElem?_toArray, List.getElem?_cons_zero, List.getElem?_cons_succ]; exact rfl) rfl ?_; go_big_quiet_step (fail); refine wpQuiet_nil ?_) | (refine Mix.mix_p (by simp only [List.getElem?_toArray, List.getElem?_cons_zero, List.getElem?_cons_succ]; exact rfl) rfl rfl ?_; go_big_quiet_step (fail); refine wpQuiet_nil ?_) | (refine Mix.mix_s (by simp only [List.getElem?_toArray, List.getElem?_cons_zero, List.getElem?_cons_succ]; exact rfl) rfl rfl ?_; go_big_quiet_step (fail); refine wpQuiet_nil ?_))
      intro n5
      go_wp2_with fail
      go_roundw
      case rel => exact ⟨j + 1, by omega, by push_cast; rw [Int.add_assoc], by rw [take_range _ _ _ hlt]; exact ((Ch.refl (fun _ => False) w').drewN n5).own hown' (fun _ _ => id), hch'.drewN n5⟩
      case measure => have := HTM.out; simp [intOf]; omega
    · have hjm : j = m := by omega
      have hne : decide (((H : Int) + (j : Int)) < (T : Int)) = false := decide_eq_false (by have := HM.out; omega)
      have HJM := hid hjm
      have HOWN := hid hown
      have HCH := hid hch
      clear hjm hlt hown hch
      go_wp2_with fail
      refine (rtail_any B rp vb rf mv s F wr HF.out).mono ?_
      rintro e wt ⟨rfl, n2, rfl⟩
      rw [HTN.out]
      go_wp2_with fail
      go_ret
      refine ⟨_, rfl, ?_, HCH.out.drewN _⟩
      have hjm := HJM.out
      have hown := HOWN.out
      rw [hjm, List.take_of_length_le (by simp)] at hown
      have := ((Ch.refl (fun _ => False) wr).drewN n2).own hown (fun _ _ => id)
      rw [hjm]
      simpa using this
end Go.Proofs.Ytonjbofdmmnpdaa
