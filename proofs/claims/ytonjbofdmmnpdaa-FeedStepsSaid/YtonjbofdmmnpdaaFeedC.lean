/- The feed: the steps of a reception. -/
import Derived.Test.YtonjbofdmmnpdaaFeedB
namespace Go.Proofs.Ytonjbofdmmnpdaa
open Go.RowKit
set_option linter.unusedVariables false
set_option linter.unusedSimpArgs false
set_option linter.unusedSectionVars false

/-- The bank, the feed and an operation, at a world on the way. -/
structure AtO (B p cb fb rb : Nat) (lv0 lv : Value) (t : TypeId) (vs : List Int) (lg : List Acc) (fc rc : Array Value) (w0 W : World) : Prop where
  b : Bank B W p cb lv vs lg
  f : Blk W fb 98 fc
  r : Blk W rb t rc
  c : Ch (fun b => FP p cb lv0 b ∨ b = fb ∨ b = rb) w0 W
  z : w0.heap.size ≤ W.heap.size
  y : Fresh w0 lv0 lv
  t1 : t ≠ 88
  t2 : t ≠ 94
  t3 : t ≠ 120
  t4 : t ≠ 98

section
variable {B p cb fb rb : Nat} {lv0 lv : Value} {t : TypeId} {vs : List Int} {lg : List Acc} {fc rc : Array Value} {w0 W : World}
theorem AtO.nf (h : AtO B p cb fb rb lv0 lv t vs lg fc rc w0 W) : ¬ FP p cb lv fb := not_fp h.b h.f (by decide) (by decide) (by decide)
theorem AtO.nr (h : AtO B p cb fb rb lv0 lv t vs lg fc rc w0 W) : ¬ FP p cb lv rb := not_fp h.b h.r h.t1 h.t2 h.t3
theorem AtO.ne (h : AtO B p cb fb rb lv0 lv t vs lg fc rc w0 W) : fb ≠ rb := fun e => h.t4 (by have := (h.f.ne h.r (t := 98)); exact Classical.byContradiction fun hn => this (fun e' => hn e'.symm) e)
theorem Bank.off {g i : Nat} {u : Value} {p cb : Nat} {lv : Value} {W : World} (h : Bank B W p cb lv vs lg) (hg : ¬ FP p cb lv g) : Bank B (W.setCell ⟨g, i, none⟩ u) p cb lv vs lg :=
  h.ch ((Ch.refl (fun b => b = g) W).set (fun _ => rfl) u) (fun e => hg (.inl e.symm)) (fun e => hg (.inr (.inl e.symm))) (fun k hk e => hg (.inr (.inr (by rw [← e]; exact hk))))
theorem AtO.drewN (h : AtO B p cb fb rb lv0 lv t vs lg fc rc w0 W) (n : Nat) : AtO B p cb fb rb lv0 lv t vs lg fc rc w0 (W.drewN n) :=
  ⟨bank_drew h.b n, h.f.drewN n, h.r.drewN n, h.c.drewN n, h.z, h.y, h.t1, h.t2, h.t3, h.t4⟩
theorem AtO.putR (h : AtO B p cb fb rb lv0 lv t vs lg fc rc w0 W) (i : Nat) (u : Value) : AtO B p cb fb rb lv0 lv t vs lg fc (rc.setIfInBounds i u) w0 (W.setCell ⟨rb, i, none⟩ u) :=
  ⟨h.b.off h.nr, h.f.far (p := ⟨rb, i, none⟩) h.ne _, h.r.put i u, h.c.set (fun _ => .inr (.inr rfl)) u, by simpa using h.z, h.y, h.t1, h.t2, h.t3, h.t4⟩
theorem AtO.putF (h : AtO B p cb fb rb lv0 lv t vs lg fc rc w0 W) (i : Nat) (u : Value) : AtO B p cb fb rb lv0 lv t vs lg (fc.setIfInBounds i u) rc w0 (W.setCell ⟨fb, i, none⟩ u) :=
  ⟨h.b.off h.nf, h.f.put i u, h.r.far (p := ⟨fb, i, none⟩) (Ne.symm h.ne) _, h.c.set (fun _ => .inr (.inl rfl)) u, by simpa using h.z, h.y, h.t1, h.t2, h.t3, h.t4⟩
/-- Behind a method of the bank. -/
theorem AtO.call {s' : BS} {W' : World} (h : AtO B p cb fb rb lv0 lv t vs lg fc rc w0 W) (hs : BStep B W W' p cb lv s') : ∃ lv', AtO B p cb fb rb lv0 lv' t s'.vs s'.lg fc rc w0 W' := by
  obtain ⟨lv', hb, hc, hf⟩ := hs
  refine ⟨lv', hb, hc.blk h.f h.nf, hc.blk h.r h.nr, ?_, Nat.le_trans h.z hc.size, ?_, h.t1, h.t2, h.t3, h.t4⟩
  · refine h.c.trans hc (fun b hb hfb => .inl ?_)
    rcases hfb with e | e | e
    · exact .inl e
    · exact .inr (.inl e)
    · rcases h.y with y | y
      · exact .inr (.inr (by rw [← y]; exact e))
      · have := y b e; omega
  · rcases hf with e | e
    · rcases h.y with y | y
      · exact .inl (e.trans y)
      · exact .inr fun b hb => y b (by rw [← e]; exact hb)
    · exact .inr fun b hb => Nat.le_trans h.z (e b hb)
end
theorem AtO.start {B p cb fb rb : Nat} {lv : Value} {t : TypeId} {s : BS} {F : Fd} {rc : Array Value} {w : World} (h : FeedM B w p cb fb lv s F) (hr : Blk w rb t rc) (h1 : t ≠ 88 := by decide) (h2 : t ≠ 94 := by decide) (h3 : t ≠ 120 := by decide) (h4 : t ≠ 98 := by decide) :
    AtO B p cb fb rb lv lv t s.vs s.lg (fdCells p s F) rc w w := ⟨h.b, h.fd, hr, Ch.refl _ _, Nat.le_refl _, .inl rfl, h1, h2, h3, h4⟩

/-- What a step of a reception leaves. -/
def RRes (B p cb fb rb : Nat) (lv : Value) (F : Fd) (r : Rd) (o : BS × Rd) (w : World) (e : Ending) (w' : World) : Prop :=
  e = .returned (.tuple #[.int .u8 r.ph, .bool (o.2.ph == 0)]) ∧ ∃ lv', FeedM B w' p cb fb lv' o.1 (F.rcv (o.2.ph != 0)) ∧ Blk w' rb 108 (rdCells fb o.2) ∧ Ch (fun b => FP p cb lv b ∨ b = fb ∨ b = rb) w w' ∧ Fresh w lv lv'

theorem rres_close {B p cb fb rb : Nat} {lv lv' : Value} {s s' : BS} {F : Fd} {r r1 : Rd} {w W w' : World} {fc rc : Array Value} (nx : Int) (h : FeedM B w p cb fb lv s F) (ha : AtO B p cb fb rb lv lv' 108 s'.vs s'.lg fc rc w W) (hfc : fc = fdCells p s' F) (hrc : rc.setIfInBounds 2 (.int .u8 nx) = rdCells fb r1) (hnx : r1.ph = nx)
    (hl : s'.vs.length = s.vs.length) (hw : w' = ((W.setCell ⟨rb, 2, none⟩ (.int .u8 nx)).setCell ⟨fb, 7, none⟩ (.bool (nx != 0)))) :
    RRes B p cb fb rb lv F r (s', r1) w (.returned (.tuple #[.int .u8 r.ph, .bool (nx == 0)])) w' := by
  subst hw hfc hnx
  have h2 := (ha.putR 2 (.int .u8 r1.ph)).putF 7 (.bool (r1.ph != 0))
  refine ⟨rfl, lv', ⟨h2.b, h2.f, ⟨by rw [hl]; exact h.ok.room, h.ok.n1, h.ok.n2⟩, h.bf⟩, ?_, h2.c, h2.y⟩
  rw [hrc] at h2
  exact h2.r

section
variable (B p cb fb rb : Nat) (lv : Value) (s : BS) (F : Fd) (r : Rd) (w : World) (h : FeedM B w p cb fb lv s F) (hq : Blk w rb 108 (rdCells fb r)) (ht : 0 ≤ r.t ∧ r.t < 16) (hlen : s.lg.length < 1000000) (hB : B ≤ w.heap.size)
include h hq ht hlen hB

set_option maxRecDepth 100000 in
set_option maxHeartbeats 1000000 in
theorem rstep14 (hph : r.ph = 14)  : Calls Try.prog 33 #[.pointer (some ⟨rb, 0, none⟩)] w (RRes B p cb fb rb lv F r (rstep s F r) w) := by
  have he : rstep s F r = (s.load r.t (F.first + 1 : Nat), { r with l := cLag s F, ph := 15 }) := by unfold rstep; rw [if_pos hph]
  rw [he]
  have hA := AtO.start h hq
  have hn := h.hn
  have hn1 := h.ok.n1
  have hr := h.ok.room
  have f0 : w.cell? ⟨fb, 0, none⟩ = some (.pointer (some ⟨p, 0, none⟩)) := hA.f.cell 0
  have f1 : w.cell? ⟨fb, 1, none⟩ = some (.int .i64 F.first) := hA.f.cell 1
  have f2 : w.cell? ⟨fb, 2, none⟩ = some (.int .i64 F.n) := hA.f.cell 2
  have f3 : w.cell? ⟨fb, 3, none⟩ = some (.int .u64 (cHead s F)) := hA.f.cell 3
  have f4 : w.cell? ⟨fb, 4, none⟩ = some (.int .u64 (cTail s F)) := hA.f.cell 4
  have f5 : w.cell? ⟨fb, 5, none⟩ = some (.int .u64 F.last) := hA.f.cell 5
  have f6 : w.cell? ⟨fb, 6, none⟩ = some (.bool F.pushing) := hA.f.cell 6
  have f7 : w.cell? ⟨fb, 7, none⟩ = some (.bool F.receiving) := hA.f.cell 7
  have r0 : w.cell? ⟨rb, 0, none⟩ = some (.pointer (some ⟨fb, 0, none⟩)) := hA.r.cell 0
  have r1 : w.cell? ⟨rb, 1, none⟩ = some (.int .i64 r.t) := hA.r.cell 1
  have r2 : w.cell? ⟨rb, 2, none⟩ = some (.int .u8 r.ph) := hA.r.cell 2
  have r3 : w.cell? ⟨rb, 3, none⟩ = some (.int .u64 r.after) := hA.r.cell 3
  have r4 : w.cell? ⟨rb, 4, none⟩ = some (.int .u64 r.l) := hA.r.cell 4
  have r5 : w.cell? ⟨rb, 5, none⟩ = some (.int .u64 r.value) := hA.r.cell 5
  have r6 : w.cell? ⟨rb, 6, none⟩ = some (.bool r.lagged) := hA.r.cell 6
  have r7 : w.cell? ⟨rb, 7, none⟩ = some (.int .i64 r.err) := hA.r.cell 7
  have gf3 := hA.f.free 3
  have gf7 := hA.f.free 7
  have gr2 := hA.r.free 2
  have gr4 := hA.r.free 4
  have gr5 := hA.r.free 5
  have gr6 := hA.r.free 6
  have gr7 := hA.r.free 7
  have hne := hA.ne
  rw [hph] at r2
  have Hph := hid hph
  have Hh := hid h
  have HA := hid hA
  clear he hph hA
  go_enter Try.func33, Try.ntmps33
  go_wp2_with fail
  refine Mix.wp_region_mix (fun _ => True) (fun i => ([1, 0, 0, 0, 0, 0, 0, 0, 0, 0, 0, 0, 0, 0, 2, 0, 0, 1, 0, 0, 2] : List Nat).getD i 0) [0, 1, 2, 3, 4, 5, 6, 7, 8, 9, 10, 11, 12, 13, 14, 15, 16, 17, 18, 19, 20] (by kernel_rfl) (by kernel_rfl) ?_
  repeat (first | (refine Mix.mix_q (by simp only [List.getElem?_toArray, List.getElem?_cons_zero, List.getElem?_cons_succ]; exact rfl) rfl ?_; go_big_quiet_step (fail); refine wpQuiet_nil ?_) | (refine Mix.mix_p (by simp only [List.getElem?_toArray, List.getElem?_cons_zero, List.getElem?_cons_succ]; exact rfl) rfl rfl ?_; go_big_quiet_step (fail); refine wpQuiet_nil ?_))
  refine Mix.mix_e (by simp only [List.getElem?_toArray, List.getElem?_cons_zero, List.getElem?_cons_succ]; exact rfl) rfl fun W hW => ?_
  obtain ⟨n1, rfl⟩ := hW
  go_wp2_with fail
  refine (load_ok B p cb lv s r.t (F.first + 1 : Nat) _ (bank_drew h.b n1) ⟨ht.1, ht.2, by omega, by omega⟩ hlen hB).mono ?_
  rintro e w1 ⟨rfl, hs1⟩
  obtain ⟨lv', hA1⟩ := (HA.out.drewN n1).call hs1
  rw [Int.toNat_natCast]
  clear f0 f1 f2 f3 f4 f5 f6 f7 r0 r1 r2 r3 r4 r5 r6 r7 gf3 gf7 gr2 gr4 gr5 gr6 gr7 hne
  have f0 : w1.cell? ⟨fb, 0, none⟩ = some (.pointer (some ⟨p, 0, none⟩)) := hA1.f.cell 0
  have f1 : w1.cell? ⟨fb, 1, none⟩ = some (.int .i64 F.first) := hA1.f.cell 1
  have f2 : w1.cell? ⟨fb, 2, none⟩ = some (.int .i64 F.n) := hA1.f.cell 2
  have f3 : w1.cell? ⟨fb, 3, none⟩ = some (.int .u64 (cHead s F)) := hA1.f.cell 3
  have f4 : w1.cell? ⟨fb, 4, none⟩ = some (.int .u64 (cTail s F)) := hA1.f.cell 4
  have f5 : w1.cell? ⟨fb, 5, none⟩ = some (.int .u64 F.last) := hA1.f.cell 5
  have f6 : w1.cell? ⟨fb, 6, none⟩ = some (.bool F.pushing) := hA1.f.cell 6
  have f7 : w1.cell? ⟨fb, 7, none⟩ = some (.bool F.receiving) := hA1.f.cell 7
  have r0 : w1.cell? ⟨rb, 0, none⟩ = some (.pointer (some ⟨fb, 0, none⟩)) := hA1.r.cell 0
  have r1 : w1.cell? ⟨rb, 1, none⟩ = some (.int .i64 r.t) := hA1.r.cell 1
  have r2 : w1.cell? ⟨rb, 2, none⟩ = some (.int .u8 r.ph) := hA1.r.cell 2
  have r3 : w1.cell? ⟨rb, 3, none⟩ = some (.int .u64 r.after) := hA1.r.cell 3
  have r4 : w1.cell? ⟨rb, 4, none⟩ = some (.int .u64 r.l) := hA1.r.cell 4
  have r5 : w1.cell? ⟨rb, 5, none⟩ = some (.int .u64 r.value) := hA1.r.cell 5
  have r6 : w1.cell? ⟨rb, 6, none⟩ = some (.bool r.lagged) := hA1.r.cell 6
  have r7 : w1.cell? ⟨rb, 7, none⟩ = some (.int .i64 r.err) := hA1.r.cell 7
  have gf3 := hA1.f.free 3
  have gf7 := hA1.f.free 7
  have gr2 := hA1.r.free 2
  have gr4 := hA1.r.free 4
  have gr5 := hA1.r.free 5
  have gr6 := hA1.r.free 6
  have gr7 := hA1.r.free 7
  have hne := hA1.ne
  rw [Hph.out] at r2
  have HA1 := hid hA1
  have Hs1 := hid hs1
  clear hA1 hs1
  go_wp2_with fail
  repeat (first | (refine Mix.mix_q (by simp only [List.getElem?_toArray, List.getElem?_cons_zero, List.getElem?_cons_succ]; exact rfl) rfl ?_; go_big_quiet_step (fail); refine wpQuiet_nil ?_) | (refine Mix.mix_p (by simp only [List.getElem?_toArray, List.getElem?_cons_zero, List.getElem?_cons_succ]; exact rfl) rfl rfl ?_; go_big_quiet_step (fail); refine wpQuiet_nil ?_))
  refine Mix.mix_e (by simp only [List.getElem?_toArray, List.getElem?_cons_zero, List.getElem?_cons_succ]; exact rfl) rfl fun W2 hW2 => ?_
  obtain ⟨n2, rfl⟩ := hW2
  go_wp2_with fail
  refine Mix.mix_world fun w2 hw2 => ?_
  have hA2 := (HA1.out.drewN n2).putR 4 (.int .u64 (lk s.vs (F.first + 1)))
  rw [← hw2] at hA2
  clear f0 f1 f2 f3 f4 f5 f6 f7 r0 r1 r2 r3 r4 r5 r6 r7 gf3 gf7 gr2 gr4 gr5 gr6 gr7 hne
  clear hw2
  have f0 : w2.cell? ⟨fb, 0, none⟩ = some (.pointer (some ⟨p, 0, none⟩)) := hA2.f.cell 0
  have f1 : w2.cell? ⟨fb, 1, none⟩ = some (.int .i64 F.first) := hA2.f.cell 1
  have f2 : w2.cell? ⟨fb, 2, none⟩ = some (.int .i64 F.n) := hA2.f.cell 2
  have f3 : w2.cell? ⟨fb, 3, none⟩ = some (.int .u64 (cHead s F)) := hA2.f.cell 3
  have f4 : w2.cell? ⟨fb, 4, none⟩ = some (.int .u64 (cTail s F)) := hA2.f.cell 4
  have f5 : w2.cell? ⟨fb, 5, none⟩ = some (.int .u64 F.last) := hA2.f.cell 5
  have f6 : w2.cell? ⟨fb, 6, none⟩ = some (.bool F.pushing) := hA2.f.cell 6
  have f7 : w2.cell? ⟨fb, 7, none⟩ = some (.bool F.receiving) := hA2.f.cell 7
  have r0 : w2.cell? ⟨rb, 0, none⟩ = some (.pointer (some ⟨fb, 0, none⟩)) := hA2.r.cell 0
  have r1 : w2.cell? ⟨rb, 1, none⟩ = some (.int .i64 r.t) := hA2.r.cell 1
  have r2 : w2.cell? ⟨rb, 2, none⟩ = some (.int .u8 r.ph) := hA2.r.cell 2
  have r3 : w2.cell? ⟨rb, 3, none⟩ = some (.int .u64 r.after) := hA2.r.cell 3
  have r4 : w2.cell? ⟨rb, 4, none⟩ = some (.int .u64 (lk s.vs (F.first + 1))) := hA2.r.cell 4
  have r5 : w2.cell? ⟨rb, 5, none⟩ = some (.int .u64 r.value) := hA2.r.cell 5
  have r6 : w2.cell? ⟨rb, 6, none⟩ = some (.bool r.lagged) := hA2.r.cell 6
  have r7 : w2.cell? ⟨rb, 7, none⟩ = some (.int .i64 r.err) := hA2.r.cell 7
  have gf3 := hA2.f.free 3
  have gf7 := hA2.f.free 7
  have gr2 := hA2.r.free 2
  have gr4 := hA2.r.free 4
  have gr5 := hA2.r.free 5
  have gr6 := hA2.r.free 6
  have gr7 := hA2.r.free 7
  have hne := hA2.ne
  rw [Hph.out] at r2
  have HA2 := hid hA2
  clear hA2
  intro n3
  go_wp2_with fail
  go_ret2
  rw [← Hph.out]
  exact rres_close 15 Hh.out (HA2.out.drewN n3) rfl rfl rfl rfl rfl

set_option maxRecDepth 100000 in
set_option maxHeartbeats 1000000 in
theorem rstep15a (hph : r.ph = 15) (hc : cTail s F ≠ cHead s F) : Calls Try.prog 33 #[.pointer (some ⟨rb, 0, none⟩)] w (RRes B p cb fb rb lv F r (rstep s F r) w) := by
  have he : rstep s F r = (s.load r.t (F.first + 3 : Nat), { r with ph := 16 }) := by unfold rstep; rw [if_neg (by rw [hph]; decide), if_pos hph, if_neg hc]
  rw [he]
  have hA := AtO.start h hq
  have hn := h.hn
  have hn1 := h.ok.n1
  have hr := h.ok.room
  have f0 : w.cell? ⟨fb, 0, none⟩ = some (.pointer (some ⟨p, 0, none⟩)) := hA.f.cell 0
  have f1 : w.cell? ⟨fb, 1, none⟩ = some (.int .i64 F.first) := hA.f.cell 1
  have f2 : w.cell? ⟨fb, 2, none⟩ = some (.int .i64 F.n) := hA.f.cell 2
  have f3 : w.cell? ⟨fb, 3, none⟩ = some (.int .u64 (cHead s F)) := hA.f.cell 3
  have f4 : w.cell? ⟨fb, 4, none⟩ = some (.int .u64 (cTail s F)) := hA.f.cell 4
  have f5 : w.cell? ⟨fb, 5, none⟩ = some (.int .u64 F.last) := hA.f.cell 5
  have f6 : w.cell? ⟨fb, 6, none⟩ = some (.bool F.pushing) := hA.f.cell 6
  have f7 : w.cell? ⟨fb, 7, none⟩ = some (.bool F.receiving) := hA.f.cell 7
  have r0 : w.cell? ⟨rb, 0, none⟩ = some (.pointer (some ⟨fb, 0, none⟩)) := hA.r.cell 0
  have r1 : w.cell? ⟨rb, 1, none⟩ = some (.int .i64 r.t) := hA.r.cell 1
  have r2 : w.cell? ⟨rb, 2, none⟩ = some (.int .u8 r.ph) := hA.r.cell 2
  have r3 : w.cell? ⟨rb, 3, none⟩ = some (.int .u64 r.after) := hA.r.cell 3
  have r4 : w.cell? ⟨rb, 4, none⟩ = some (.int .u64 r.l) := hA.r.cell 4
  have r5 : w.cell? ⟨rb, 5, none⟩ = some (.int .u64 r.value) := hA.r.cell 5
  have r6 : w.cell? ⟨rb, 6, none⟩ = some (.bool r.lagged) := hA.r.cell 6
  have r7 : w.cell? ⟨rb, 7, none⟩ = some (.int .i64 r.err) := hA.r.cell 7
  have gf3 := hA.f.free 3
  have gf7 := hA.f.free 7
  have gr2 := hA.r.free 2
  have gr4 := hA.r.free 4
  have gr5 := hA.r.free 5
  have gr6 := hA.r.free 6
  have gr7 := hA.r.free 7
  have hne := hA.ne
  rw [hph] at r2
  have hv : (lk s.vs (F.first + 3) != cHead s F) = true := by rw [bne_iff_ne]; exact hc
  clear hc
  have Hph := hid hph
  have Hh := hid h
  have HA := hid hA
  clear he hph hA
  go_enter Try.func33, Try.ntmps33
  go_wp2_with fail
  refine Mix.wp_region_mix (fun _ => True) (fun i => ([0, 0, 0, 0, 0, 0, 0, 0, 0, 0, 0, 0, 0, 2, 0, 0, 0, 0, 0] : List Nat).getD i 0) [0, 1, 2, 3, 4, 5, 6, 7, 8, 9, 10, 11, 12, 13, 14, 15, 16, 17, 18] (by kernel_rfl) (by kernel_rfl) ?_
  repeat (first | (refine Mix.mix_q (by simp only [List.getElem?_toArray, List.getElem?_cons_zero, List.getElem?_cons_succ]; exact rfl) rfl ?_; go_big_quiet_step (fail); refine wpQuiet_nil ?_) | (refine Mix.mix_p (by simp only [List.getElem?_toArray, List.getElem?_cons_zero, List.getElem?_cons_succ]; exact rfl) rfl rfl ?_; go_big_quiet_step (fail); refine wpQuiet_nil ?_))
  refine Mix.mix_e (by simp only [List.getElem?_toArray, List.getElem?_cons_zero, List.getElem?_cons_succ]; exact rfl) rfl fun W hW => ?_
  obtain ⟨n1, rfl⟩ := hW
  go_wp2_with fail
  refine (load_ok B p cb lv s r.t (F.first + 3 : Nat) _ (bank_drew h.b n1) ⟨ht.1, ht.2, by omega, by omega⟩ hlen hB).mono ?_
  rintro e w1 ⟨rfl, hs1⟩
  obtain ⟨lv', hA1⟩ := (HA.out.drewN n1).call hs1
  rw [Int.toNat_natCast]
  clear f0 f1 f2 f3 f4 f5 f6 f7 r0 r1 r2 r3 r4 r5 r6 r7 gf3 gf7 gr2 gr4 gr5 gr6 gr7 hne
  have f0 : w1.cell? ⟨fb, 0, none⟩ = some (.pointer (some ⟨p, 0, none⟩)) := hA1.f.cell 0
  have f1 : w1.cell? ⟨fb, 1, none⟩ = some (.int .i64 F.first) := hA1.f.cell 1
  have f2 : w1.cell? ⟨fb, 2, none⟩ = some (.int .i64 F.n) := hA1.f.cell 2
  have f3 : w1.cell? ⟨fb, 3, none⟩ = some (.int .u64 (cHead s F)) := hA1.f.cell 3
  have f4 : w1.cell? ⟨fb, 4, none⟩ = some (.int .u64 (cTail s F)) := hA1.f.cell 4
  have f5 : w1.cell? ⟨fb, 5, none⟩ = some (.int .u64 F.last) := hA1.f.cell 5
  have f6 : w1.cell? ⟨fb, 6, none⟩ = some (.bool F.pushing) := hA1.f.cell 6
  have f7 : w1.cell? ⟨fb, 7, none⟩ = some (.bool F.receiving) := hA1.f.cell 7
  have r0 : w1.cell? ⟨rb, 0, none⟩ = some (.pointer (some ⟨fb, 0, none⟩)) := hA1.r.cell 0
  have r1 : w1.cell? ⟨rb, 1, none⟩ = some (.int .i64 r.t) := hA1.r.cell 1
  have r2 : w1.cell? ⟨rb, 2, none⟩ = some (.int .u8 r.ph) := hA1.r.cell 2
  have r3 : w1.cell? ⟨rb, 3, none⟩ = some (.int .u64 r.after) := hA1.r.cell 3
  have r4 : w1.cell? ⟨rb, 4, none⟩ = some (.int .u64 r.l) := hA1.r.cell 4
  have r5 : w1.cell? ⟨rb, 5, none⟩ = some (.int .u64 r.value) := hA1.r.cell 5
  have r6 : w1.cell? ⟨rb, 6, none⟩ = some (.bool r.lagged) := hA1.r.cell 6
  have r7 : w1.cell? ⟨rb, 7, none⟩ = some (.int .i64 r.err) := hA1.r.cell 7
  have gf3 := hA1.f.free 3
  have gf7 := hA1.f.free 7
  have gr2 := hA1.r.free 2
  have gr4 := hA1.r.free 4
  have gr5 := hA1.r.free 5
  have gr6 := hA1.r.free 6
  have gr7 := hA1.r.free 7
  have hne := hA1.ne
  rw [Hph.out] at r2
  have HA1 := hid hA1
  have Hs1 := hid hs1
  clear hA1 hs1
  go_wp2_with fail
  repeat (first | (refine Mix.mix_q (by simp only [List.getElem?_toArray, List.getElem?_cons_zero, List.getElem?_cons_succ]; exact rfl) rfl ?_; go_big_quiet_step (fail); refine wpQuiet_nil ?_) | (refine Mix.mix_p (by simp only [List.getElem?_toArray, List.getElem?_cons_zero, List.getElem?_cons_succ]; exact rfl) rfl rfl ?_; go_big_quiet_step (fail); refine wpQuiet_nil ?_))
  intro n2
  go_wp2_with fail
  go_ret2
  rw [← Hph.out]
  exact rres_close 16 Hh.out (HA1.out.drewN n2) rfl rfl rfl rfl rfl

set_option maxRecDepth 100000 in
set_option maxHeartbeats 1000000 in
theorem rstep15b (hph : r.ph = 15) (hc : cTail s F = cHead s F) (hc2 : r.l ≠ 0) : Calls Try.prog 33 #[.pointer (some ⟨rb, 0, none⟩)] w (RRes B p cb fb rb lv F r (rstep s F r) w) := by
  have he : rstep s F r = (s.load r.t (F.first + 3 : Nat), { r with ph := 18 }) := by unfold rstep; rw [if_neg (by rw [hph]; decide), if_pos hph, if_pos hc, if_neg hc2]
  rw [he]
  have hA := AtO.start h hq
  have hn := h.hn
  have hn1 := h.ok.n1
  have hr := h.ok.room
  have f0 : w.cell? ⟨fb, 0, none⟩ = some (.pointer (some ⟨p, 0, none⟩)) := hA.f.cell 0
  have f1 : w.cell? ⟨fb, 1, none⟩ = some (.int .i64 F.first) := hA.f.cell 1
  have f2 : w.cell? ⟨fb, 2, none⟩ = some (.int .i64 F.n) := hA.f.cell 2
  have f3 : w.cell? ⟨fb, 3, none⟩ = some (.int .u64 (cHead s F)) := hA.f.cell 3
  have f4 : w.cell? ⟨fb, 4, none⟩ = some (.int .u64 (cTail s F)) := hA.f.cell 4
  have f5 : w.cell? ⟨fb, 5, none⟩ = some (.int .u64 F.last) := hA.f.cell 5
  have f6 : w.cell? ⟨fb, 6, none⟩ = some (.bool F.pushing) := hA.f.cell 6
  have f7 : w.cell? ⟨fb, 7, none⟩ = some (.bool F.receiving) := hA.f.cell 7
  have r0 : w.cell? ⟨rb, 0, none⟩ = some (.pointer (some ⟨fb, 0, none⟩)) := hA.r.cell 0
  have r1 : w.cell? ⟨rb, 1, none⟩ = some (.int .i64 r.t) := hA.r.cell 1
  have r2 : w.cell? ⟨rb, 2, none⟩ = some (.int .u8 r.ph) := hA.r.cell 2
  have r3 : w.cell? ⟨rb, 3, none⟩ = some (.int .u64 r.after) := hA.r.cell 3
  have r4 : w.cell? ⟨rb, 4, none⟩ = some (.int .u64 r.l) := hA.r.cell 4
  have r5 : w.cell? ⟨rb, 5, none⟩ = some (.int .u64 r.value) := hA.r.cell 5
  have r6 : w.cell? ⟨rb, 6, none⟩ = some (.bool r.lagged) := hA.r.cell 6
  have r7 : w.cell? ⟨rb, 7, none⟩ = some (.int .i64 r.err) := hA.r.cell 7
  have gf3 := hA.f.free 3
  have gf7 := hA.f.free 7
  have gr2 := hA.r.free 2
  have gr4 := hA.r.free 4
  have gr5 := hA.r.free 5
  have gr6 := hA.r.free 6
  have gr7 := hA.r.free 7
  have hne := hA.ne
  rw [hph] at r2
  have hv : (lk s.vs (F.first + 3) != cHead s F) = false := by rw [bne_eq_false_iff_eq]; exact hc
  have hv2 : (r.l != 0) = true := by rw [bne_iff_ne]; exact hc2
  clear hc hc2
  have Hph := hid hph
  have Hh := hid h
  have HA := hid hA
  clear he hph hA
  go_enter Try.func33, Try.ntmps33
  go_wp2_with fail
  refine Mix.wp_region_mix (fun _ => True) (fun i => ([0, 0, 0, 0, 0, 0, 0, 0, 0, 0, 0, 0, 0, 2, 0, 0, 0, 0, 0] : List Nat).getD i 0) [0, 1, 2, 3, 4, 5, 6, 7, 8, 9, 10, 11, 12, 13, 14, 15, 16, 17, 18] (by kernel_rfl) (by kernel_rfl) ?_
  repeat (first | (refine Mix.mix_q (by simp only [List.getElem?_toArray, List.getElem?_cons_zero, List.getElem?_cons_succ]; exact rfl) rfl ?_; go_big_quiet_step (fail); refine wpQuiet_nil ?_) | (refine Mix.mix_p (by simp only [List.getElem?_toArray, List.getElem?_cons_zero, List.getElem?_cons_succ]; exact rfl) rfl rfl ?_; go_big_quiet_step (fail); refine wpQuiet_nil ?_))
  refine Mix.mix_e (by simp only [List.getElem?_toArray, List.getElem?_cons_zero, List.getElem?_cons_succ]; exact rfl) rfl fun W hW => ?_
  obtain ⟨n1, rfl⟩ := hW
  go_wp2_with fail
  refine (load_ok B p cb lv s r.t (F.first + 3 : Nat) _ (bank_drew h.b n1) ⟨ht.1, ht.2, by omega, by omega⟩ hlen hB).mono ?_
  rintro e w1 ⟨rfl, hs1⟩
  obtain ⟨lv', hA1⟩ := (HA.out.drewN n1).call hs1
  rw [Int.toNat_natCast]
  clear f0 f1 f2 f3 f4 f5 f6 f7 r0 r1 r2 r3 r4 r5 r6 r7 gf3 gf7 gr2 gr4 gr5 gr6 gr7 hne
  have f0 : w1.cell? ⟨fb, 0, none⟩ = some (.pointer (some ⟨p, 0, none⟩)) := hA1.f.cell 0
  have f1 : w1.cell? ⟨fb, 1, none⟩ = some (.int .i64 F.first) := hA1.f.cell 1
  have f2 : w1.cell? ⟨fb, 2, none⟩ = some (.int .i64 F.n) := hA1.f.cell 2
  have f3 : w1.cell? ⟨fb, 3, none⟩ = some (.int .u64 (cHead s F)) := hA1.f.cell 3
  have f4 : w1.cell? ⟨fb, 4, none⟩ = some (.int .u64 (cTail s F)) := hA1.f.cell 4
  have f5 : w1.cell? ⟨fb, 5, none⟩ = some (.int .u64 F.last) := hA1.f.cell 5
  have f6 : w1.cell? ⟨fb, 6, none⟩ = some (.bool F.pushing) := hA1.f.cell 6
  have f7 : w1.cell? ⟨fb, 7, none⟩ = some (.bool F.receiving) := hA1.f.cell 7
  have r0 : w1.cell? ⟨rb, 0, none⟩ = some (.pointer (some ⟨fb, 0, none⟩)) := hA1.r.cell 0
  have r1 : w1.cell? ⟨rb, 1, none⟩ = some (.int .i64 r.t) := hA1.r.cell 1
  have r2 : w1.cell? ⟨rb, 2, none⟩ = some (.int .u8 r.ph) := hA1.r.cell 2
  have r3 : w1.cell? ⟨rb, 3, none⟩ = some (.int .u64 r.after) := hA1.r.cell 3
  have r4 : w1.cell? ⟨rb, 4, none⟩ = some (.int .u64 r.l) := hA1.r.cell 4
  have r5 : w1.cell? ⟨rb, 5, none⟩ = some (.int .u64 r.value) := hA1.r.cell 5
  have r6 : w1.cell? ⟨rb, 6, none⟩ = some (.bool r.lagged) := hA1.r.cell 6
  have r7 : w1.cell? ⟨rb, 7, none⟩ = some (.int .i64 r.err) := hA1.r.cell 7
  have gf3 := hA1.f.free 3
  have gf7 := hA1.f.free 7
  have gr2 := hA1.r.free 2
  have gr4 := hA1.r.free 4
  have gr5 := hA1.r.free 5
  have gr6 := hA1.r.free 6
  have gr7 := hA1.r.free 7
  have hne := hA1.ne
  rw [Hph.out] at r2
  have HA1 := hid hA1
  have Hs1 := hid hs1
  clear hA1 hs1
  go_wp2_with fail
  repeat (first | (refine Mix.mix_q (by simp only [List.getElem?_toArray, List.getElem?_cons_zero, List.getElem?_cons_succ]; exact rfl) rfl ?_; go_big_quiet_step (fail); refine wpQuiet_nil ?_) | (refine Mix.mix_p (by simp only [List.getElem?_toArray, List.getElem?_cons_zero, List.getElem?_cons_succ]; exact rfl) rfl rfl ?_; go_big_quiet_step (fail); refine wpQuiet_nil ?_))
  intro n2
  go_wp2_with fail
  go_ret2
  rw [← Hph.out]
  exact rres_close 18 Hh.out (HA1.out.drewN n2) rfl rfl rfl rfl rfl

set_option maxRecDepth 100000 in
set_option maxHeartbeats 1000000 in
theorem rstep15c (hph : r.ph = 15) (hc : cTail s F = cHead s F) (hc2 : r.l = 0) : Calls Try.prog 33 #[.pointer (some ⟨rb, 0, none⟩)] w (RRes B p cb fb rb lv F r (rstep s F r) w) := by
  have he : rstep s F r = (s.load r.t (F.first + 3 : Nat), { r with ph := 0, err := 17 }) := by unfold rstep; rw [if_neg (by rw [hph]; decide), if_pos hph, if_pos hc, if_pos hc2]
  rw [he]
  have hA := AtO.start h hq
  have hn := h.hn
  have hn1 := h.ok.n1
  have hr := h.ok.room
  have f0 : w.cell? ⟨fb, 0, none⟩ = some (.pointer (some ⟨p, 0, none⟩)) := hA.f.cell 0
  have f1 : w.cell? ⟨fb, 1, none⟩ = some (.int .i64 F.first) := hA.f.cell 1
  have f2 : w.cell? ⟨fb, 2, none⟩ = some (.int .i64 F.n) := hA.f.cell 2
  have f3 : w.cell? ⟨fb, 3, none⟩ = some (.int .u64 (cHead s F)) := hA.f.cell 3
  have f4 : w.cell? ⟨fb, 4, none⟩ = some (.int .u64 (cTail s F)) := hA.f.cell 4
  have f5 : w.cell? ⟨fb, 5, none⟩ = some (.int .u64 F.last) := hA.f.cell 5
  have f6 : w.cell? ⟨fb, 6, none⟩ = some (.bool F.pushing) := hA.f.cell 6
  have f7 : w.cell? ⟨fb, 7, none⟩ = some (.bool F.receiving) := hA.f.cell 7
  have r0 : w.cell? ⟨rb, 0, none⟩ = some (.pointer (some ⟨fb, 0, none⟩)) := hA.r.cell 0
  have r1 : w.cell? ⟨rb, 1, none⟩ = some (.int .i64 r.t) := hA.r.cell 1
  have r2 : w.cell? ⟨rb, 2, none⟩ = some (.int .u8 r.ph) := hA.r.cell 2
  have r3 : w.cell? ⟨rb, 3, none⟩ = some (.int .u64 r.after) := hA.r.cell 3
  have r4 : w.cell? ⟨rb, 4, none⟩ = some (.int .u64 r.l) := hA.r.cell 4
  have r5 : w.cell? ⟨rb, 5, none⟩ = some (.int .u64 r.value) := hA.r.cell 5
  have r6 : w.cell? ⟨rb, 6, none⟩ = some (.bool r.lagged) := hA.r.cell 6
  have r7 : w.cell? ⟨rb, 7, none⟩ = some (.int .i64 r.err) := hA.r.cell 7
  have gf3 := hA.f.free 3
  have gf7 := hA.f.free 7
  have gr2 := hA.r.free 2
  have gr4 := hA.r.free 4
  have gr5 := hA.r.free 5
  have gr6 := hA.r.free 6
  have gr7 := hA.r.free 7
  have hne := hA.ne
  rw [hph] at r2
  have hv : (lk s.vs (F.first + 3) != cHead s F) = false := by rw [bne_eq_false_iff_eq]; exact hc
  have hv2 : (r.l != 0) = false := by rw [bne_eq_false_iff_eq]; exact hc2
  clear hc hc2
  have Hph := hid hph
  have Hh := hid h
  have HA := hid hA
  clear he hph hA
  go_enter Try.func33, Try.ntmps33
  go_wp2_with fail
  refine Mix.wp_region_mix (fun _ => True) (fun i => ([0, 0, 0, 0, 0, 0, 0, 0, 0, 0, 0, 0, 0, 2, 0, 0, 0, 0, 0] : List Nat).getD i 0) [0, 1, 2, 3, 4, 5, 6, 7, 8, 9, 10, 11, 12, 13, 14, 15, 16, 17, 18] (by kernel_rfl) (by kernel_rfl) ?_
  repeat (first | (refine Mix.mix_q (by simp only [List.getElem?_toArray, List.getElem?_cons_zero, List.getElem?_cons_succ]; exact rfl) rfl ?_; go_big_quiet_step (fail); refine wpQuiet_nil ?_) | (refine Mix.mix_p (by simp only [List.getElem?_toArray, List.getElem?_cons_zero, List.getElem?_cons_succ]; exact rfl) rfl rfl ?_; go_big_quiet_step (fail); refine wpQuiet_nil ?_))
  refine Mix.mix_e (by simp only [List.getElem?_toArray, List.getElem?_cons_zero, List.getElem?_cons_succ]; exact rfl) rfl fun W hW => ?_
  obtain ⟨n1, rfl⟩ := hW
  go_wp2_with fail
  refine (load_ok B p cb lv s r.t (F.first + 3 : Nat) _ (bank_drew h.b n1) ⟨ht.1, ht.2, by omega, by omega⟩ hlen hB).mono ?_
  rintro e w1 ⟨rfl, hs1⟩
  obtain ⟨lv', hA1⟩ := (HA.out.drewN n1).call hs1
  rw [Int.toNat_natCast]
  clear f0 f1 f2 f3 f4 f5 f6 f7 r0 r1 r2 r3 r4 r5 r6 r7 gf3 gf7 gr2 gr4 gr5 gr6 gr7 hne
  have f0 : w1.cell? ⟨fb, 0, none⟩ = some (.pointer (some ⟨p, 0, none⟩)) := hA1.f.cell 0
  have f1 : w1.cell? ⟨fb, 1, none⟩ = some (.int .i64 F.first) := hA1.f.cell 1
  have f2 : w1.cell? ⟨fb, 2, none⟩ = some (.int .i64 F.n) := hA1.f.cell 2
  have f3 : w1.cell? ⟨fb, 3, none⟩ = some (.int .u64 (cHead s F)) := hA1.f.cell 3
  have f4 : w1.cell? ⟨fb, 4, none⟩ = some (.int .u64 (cTail s F)) := hA1.f.cell 4
  have f5 : w1.cell? ⟨fb, 5, none⟩ = some (.int .u64 F.last) := hA1.f.cell 5
  have f6 : w1.cell? ⟨fb, 6, none⟩ = some (.bool F.pushing) := hA1.f.cell 6
  have f7 : w1.cell? ⟨fb, 7, none⟩ = some (.bool F.receiving) := hA1.f.cell 7
  have r0 : w1.cell? ⟨rb, 0, none⟩ = some (.pointer (some ⟨fb, 0, none⟩)) := hA1.r.cell 0
  have r1 : w1.cell? ⟨rb, 1, none⟩ = some (.int .i64 r.t) := hA1.r.cell 1
  have r2 : w1.cell? ⟨rb, 2, none⟩ = some (.int .u8 r.ph) := hA1.r.cell 2
  have r3 : w1.cell? ⟨rb, 3, none⟩ = some (.int .u64 r.after) := hA1.r.cell 3
  have r4 : w1.cell? ⟨rb, 4, none⟩ = some (.int .u64 r.l) := hA1.r.cell 4
  have r5 : w1.cell? ⟨rb, 5, none⟩ = some (.int .u64 r.value) := hA1.r.cell 5
  have r6 : w1.cell? ⟨rb, 6, none⟩ = some (.bool r.lagged) := hA1.r.cell 6
  have r7 : w1.cell? ⟨rb, 7, none⟩ = some (.int .i64 r.err) := hA1.r.cell 7
  have gf3 := hA1.f.free 3
  have gf7 := hA1.f.free 7
  have gr2 := hA1.r.free 2
  have gr4 := hA1.r.free 4
  have gr5 := hA1.r.free 5
  have gr6 := hA1.r.free 6
  have gr7 := hA1.r.free 7
  have hne := hA1.ne
  rw [Hph.out] at r2
  have HA1 := hid hA1
  have Hs1 := hid hs1
  clear hA1 hs1
  go_wp2_with fail
  repeat (first | (refine Mix.mix_q (by simp only [List.getElem?_toArray, List.getElem?_cons_zero, List.getElem?_cons_succ]; exact rfl) rfl ?_; go_big_quiet_step (fail); refine wpQuiet_nil ?_) | (refine Mix.mix_p (by simp only [List.getElem?_toArray, List.getElem?_cons_zero, List.getElem?_cons_succ]; exact rfl) rfl rfl ?_; go_big_quiet_step (fail); refine wpQuiet_nil ?_))
  intro n2
  go_wp2_with fail
  go_ret2
  rw [← Hph.out]
  exact rres_close 0 Hh.out ((HA1.out.drewN n2).putR 7 (.int .i64 17)) rfl rfl rfl rfl rfl

set_option maxRecDepth 100000 in
set_option maxHeartbeats 1000000 in
theorem rstep16 (hph : r.ph = 16)  : Calls Try.prog 33 #[.pointer (some ⟨rb, 0, none⟩)] w (RRes B p cb fb rb lv F r (rstep s F r) w) := by
  have he : rstep s F r = (s.load r.t (F.ent (cHead s F) : Nat), { r with ph := 17, value := lk s.vs (F.ent (cHead s F)) }) := by unfold rstep; rw [if_neg (by rw [hph]; decide), if_neg (by rw [hph]; decide), if_pos hph]
  rw [he]
  have hA := AtO.start h hq
  have hn := h.hn
  have hn1 := h.ok.n1
  have hr := h.ok.room
  have f0 : w.cell? ⟨fb, 0, none⟩ = some (.pointer (some ⟨p, 0, none⟩)) := hA.f.cell 0
  have f1 : w.cell? ⟨fb, 1, none⟩ = some (.int .i64 F.first) := hA.f.cell 1
  have f2 : w.cell? ⟨fb, 2, none⟩ = some (.int .i64 F.n) := hA.f.cell 2
  have f3 : w.cell? ⟨fb, 3, none⟩ = some (.int .u64 (cHead s F)) := hA.f.cell 3
  have f4 : w.cell? ⟨fb, 4, none⟩ = some (.int .u64 (cTail s F)) := hA.f.cell 4
  have f5 : w.cell? ⟨fb, 5, none⟩ = some (.int .u64 F.last) := hA.f.cell 5
  have f6 : w.cell? ⟨fb, 6, none⟩ = some (.bool F.pushing) := hA.f.cell 6
  have f7 : w.cell? ⟨fb, 7, none⟩ = some (.bool F.receiving) := hA.f.cell 7
  have r0 : w.cell? ⟨rb, 0, none⟩ = some (.pointer (some ⟨fb, 0, none⟩)) := hA.r.cell 0
  have r1 : w.cell? ⟨rb, 1, none⟩ = some (.int .i64 r.t) := hA.r.cell 1
  have r2 : w.cell? ⟨rb, 2, none⟩ = some (.int .u8 r.ph) := hA.r.cell 2
  have r3 : w.cell? ⟨rb, 3, none⟩ = some (.int .u64 r.after) := hA.r.cell 3
  have r4 : w.cell? ⟨rb, 4, none⟩ = some (.int .u64 r.l) := hA.r.cell 4
  have r5 : w.cell? ⟨rb, 5, none⟩ = some (.int .u64 r.value) := hA.r.cell 5
  have r6 : w.cell? ⟨rb, 6, none⟩ = some (.bool r.lagged) := hA.r.cell 6
  have r7 : w.cell? ⟨rb, 7, none⟩ = some (.int .i64 r.err) := hA.r.cell 7
  have gf3 := hA.f.free 3
  have gf7 := hA.f.free 7
  have gr2 := hA.r.free 2
  have gr4 := hA.r.free 4
  have gr5 := hA.r.free 5
  have gr6 := hA.r.free 6
  have gr7 := hA.r.free 7
  have hne := hA.ne
  rw [hph] at r2
  have hct : 0 ≤ cHead s F := (lk_bd h.b.hv _).1
  have hel := ent_lt h.ok (cHead s F)
  have Hph := hid hph
  have Hh := hid h
  have HA := hid hA
  clear he hph hA
  go_enter Try.func33, Try.ntmps33
  go_wp2_with fail
  refine Mix.wp_region_mix (fun _ => True) (fun i => ([1, 0, 0, 0, 0, 0, 0, 0, 0, 0, 0, 0, 0, 0, 0, 0, 0, 0, 2, 0, 0, 1, 0, 0, 2] : List Nat).getD i 0) [0, 1, 2, 3, 4, 5, 6, 7, 8, 9, 10, 11, 12, 13, 14, 15, 16, 17, 18, 19, 20, 21, 22, 23, 24] (by kernel_rfl) (by kernel_rfl) ?_
  repeat (first | (refine Mix.mix_q (by simp only [List.getElem?_toArray, List.getElem?_cons_zero, List.getElem?_cons_succ]; exact rfl) rfl ?_; go_big_quiet_step ((go_at_call 63; exact fent_q h _ hct _)); refine wpQuiet_nil ?_) | (refine Mix.mix_p (by simp only [List.getElem?_toArray, List.getElem?_cons_zero, List.getElem?_cons_succ]; exact rfl) rfl rfl ?_; go_big_quiet_step (fail); refine wpQuiet_nil ?_))
  refine Mix.mix_e (by simp only [List.getElem?_toArray, List.getElem?_cons_zero, List.getElem?_cons_succ]; exact rfl) rfl fun W hW => ?_
  obtain ⟨n1, rfl⟩ := hW
  go_wp2_with fail
  refine (load_ok B p cb lv s r.t (F.ent (cHead s F) : Nat) _ (bank_drew h.b n1) ⟨ht.1, ht.2, by omega, by omega⟩ hlen hB).mono ?_
  rintro e w1 ⟨rfl, hs1⟩
  obtain ⟨lv', hA1⟩ := (HA.out.drewN n1).call hs1
  rw [Int.toNat_natCast]
  clear f0 f1 f2 f3 f4 f5 f6 f7 r0 r1 r2 r3 r4 r5 r6 r7 gf3 gf7 gr2 gr4 gr5 gr6 gr7 hne
  have f0 : w1.cell? ⟨fb, 0, none⟩ = some (.pointer (some ⟨p, 0, none⟩)) := hA1.f.cell 0
  have f1 : w1.cell? ⟨fb, 1, none⟩ = some (.int .i64 F.first) := hA1.f.cell 1
  have f2 : w1.cell? ⟨fb, 2, none⟩ = some (.int .i64 F.n) := hA1.f.cell 2
  have f3 : w1.cell? ⟨fb, 3, none⟩ = some (.int .u64 (cHead s F)) := hA1.f.cell 3
  have f4 : w1.cell? ⟨fb, 4, none⟩ = some (.int .u64 (cTail s F)) := hA1.f.cell 4
  have f5 : w1.cell? ⟨fb, 5, none⟩ = some (.int .u64 F.last) := hA1.f.cell 5
  have f6 : w1.cell? ⟨fb, 6, none⟩ = some (.bool F.pushing) := hA1.f.cell 6
  have f7 : w1.cell? ⟨fb, 7, none⟩ = some (.bool F.receiving) := hA1.f.cell 7
  have r0 : w1.cell? ⟨rb, 0, none⟩ = some (.pointer (some ⟨fb, 0, none⟩)) := hA1.r.cell 0
  have r1 : w1.cell? ⟨rb, 1, none⟩ = some (.int .i64 r.t) := hA1.r.cell 1
  have r2 : w1.cell? ⟨rb, 2, none⟩ = some (.int .u8 r.ph) := hA1.r.cell 2
  have r3 : w1.cell? ⟨rb, 3, none⟩ = some (.int .u64 r.after) := hA1.r.cell 3
  have r4 : w1.cell? ⟨rb, 4, none⟩ = some (.int .u64 r.l) := hA1.r.cell 4
  have r5 : w1.cell? ⟨rb, 5, none⟩ = some (.int .u64 r.value) := hA1.r.cell 5
  have r6 : w1.cell? ⟨rb, 6, none⟩ = some (.bool r.lagged) := hA1.r.cell 6
  have r7 : w1.cell? ⟨rb, 7, none⟩ = some (.int .i64 r.err) := hA1.r.cell 7
  have gf3 := hA1.f.free 3
  have gf7 := hA1.f.free 7
  have gr2 := hA1.r.free 2
  have gr4 := hA1.r.free 4
  have gr5 := hA1.r.free 5
  have gr6 := hA1.r.free 6
  have gr7 := hA1.r.free 7
  have hne := hA1.ne
  rw [Hph.out] at r2
  have HA1 := hid hA1
  have Hs1 := hid hs1
  clear hA1 hs1
  go_wp2_with fail
  repeat (first | (refine Mix.mix_q (by simp only [List.getElem?_toArray, List.getElem?_cons_zero, List.getElem?_cons_succ]; exact rfl) rfl ?_; go_big_quiet_step (fail); refine wpQuiet_nil ?_) | (refine Mix.mix_p (by simp only [List.getElem?_toArray, List.getElem?_cons_zero, List.getElem?_cons_succ]; exact rfl) rfl rfl ?_; go_big_quiet_step (fail); refine wpQuiet_nil ?_))
  refine Mix.mix_e (by simp only [List.getElem?_toArray, List.getElem?_cons_zero, List.getElem?_cons_succ]; exact rfl) rfl fun W2 hW2 => ?_
  obtain ⟨n2, rfl⟩ := hW2
  go_wp2_with fail
  refine Mix.mix_world fun w2 hw2 => ?_
  have hA2 := (HA1.out.drewN n2).putR 5 (.int .u64 (lk s.vs (F.ent (cHead s F))))
  rw [← hw2] at hA2
  clear f0 f1 f2 f3 f4 f5 f6 f7 r0 r1 r2 r3 r4 r5 r6 r7 gf3 gf7 gr2 gr4 gr5 gr6 gr7 hne
  clear hw2
  have f0 : w2.cell? ⟨fb, 0, none⟩ = some (.pointer (some ⟨p, 0, none⟩)) := hA2.f.cell 0
  have f1 : w2.cell? ⟨fb, 1, none⟩ = some (.int .i64 F.first) := hA2.f.cell 1
  have f2 : w2.cell? ⟨fb, 2, none⟩ = some (.int .i64 F.n) := hA2.f.cell 2
  have f3 : w2.cell? ⟨fb, 3, none⟩ = some (.int .u64 (cHead s F)) := hA2.f.cell 3
  have f4 : w2.cell? ⟨fb, 4, none⟩ = some (.int .u64 (cTail s F)) := hA2.f.cell 4
  have f5 : w2.cell? ⟨fb, 5, none⟩ = some (.int .u64 F.last) := hA2.f.cell 5
  have f6 : w2.cell? ⟨fb, 6, none⟩ = some (.bool F.pushing) := hA2.f.cell 6
  have f7 : w2.cell? ⟨fb, 7, none⟩ = some (.bool F.receiving) := hA2.f.cell 7
  have r0 : w2.cell? ⟨rb, 0, none⟩ = some (.pointer (some ⟨fb, 0, none⟩)) := hA2.r.cell 0
  have r1 : w2.cell? ⟨rb, 1, none⟩ = some (.int .i64 r.t) := hA2.r.cell 1
  have r2 : w2.cell? ⟨rb, 2, none⟩ = some (.int .u8 r.ph) := hA2.r.cell 2
  have r3 : w2.cell? ⟨rb, 3, none⟩ = some (.int .u64 r.after) := hA2.r.cell 3
  have r4 : w2.cell? ⟨rb, 4, none⟩ = some (.int .u64 r.l) := hA2.r.cell 4
  have r5 : w2.cell? ⟨rb, 5, none⟩ = some (.int .u64 (lk s.vs (F.ent (cHead s F)))) := hA2.r.cell 5
  have r6 : w2.cell? ⟨rb, 6, none⟩ = some (.bool r.lagged) := hA2.r.cell 6
  have r7 : w2.cell? ⟨rb, 7, none⟩ = some (.int .i64 r.err) := hA2.r.cell 7
  have gf3 := hA2.f.free 3
  have gf7 := hA2.f.free 7
  have gr2 := hA2.r.free 2
  have gr4 := hA2.r.free 4
  have gr5 := hA2.r.free 5
  have gr6 := hA2.r.free 6
  have gr7 := hA2.r.free 7
  have hne := hA2.ne
  rw [Hph.out] at r2
  have HA2 := hid hA2
  clear hA2
  intro n3
  go_wp2_with fail
  go_ret2
  rw [← Hph.out]
  exact rres_close 17 Hh.out (HA2.out.drewN n3) rfl rfl rfl rfl rfl

set_option maxRecDepth 100000 in
set_option maxHeartbeats 1000000 in
theorem rstep18a (hph : r.ph = 18) (hc : r.after < cLag s F) : Calls Try.prog 33 #[.pointer (some ⟨rb, 0, none⟩)] w (RRes B p cb fb rb lv F r (rstep s F r) w) := by
  have he : rstep s F r = (s.swap r.t (F.first + 1 : Nat) 0, { r with ph := 0, value := cLag s F, lagged := true }) := by unfold rstep; rw [if_neg (by rw [hph]; decide), if_neg (by rw [hph]; decide), if_neg (by rw [hph]; decide), if_neg (by rw [hph]; decide), if_pos hc]
  rw [he]
  have hA := AtO.start h hq
  have hn := h.hn
  have hn1 := h.ok.n1
  have hr := h.ok.room
  have f0 : w.cell? ⟨fb, 0, none⟩ = some (.pointer (some ⟨p, 0, none⟩)) := hA.f.cell 0
  have f1 : w.cell? ⟨fb, 1, none⟩ = some (.int .i64 F.first) := hA.f.cell 1
  have f2 : w.cell? ⟨fb, 2, none⟩ = some (.int .i64 F.n) := hA.f.cell 2
  have f3 : w.cell? ⟨fb, 3, none⟩ = some (.int .u64 (cHead s F)) := hA.f.cell 3
  have f4 : w.cell? ⟨fb, 4, none⟩ = some (.int .u64 (cTail s F)) := hA.f.cell 4
  have f5 : w.cell? ⟨fb, 5, none⟩ = some (.int .u64 F.last) := hA.f.cell 5
  have f6 : w.cell? ⟨fb, 6, none⟩ = some (.bool F.pushing) := hA.f.cell 6
  have f7 : w.cell? ⟨fb, 7, none⟩ = some (.bool F.receiving) := hA.f.cell 7
  have r0 : w.cell? ⟨rb, 0, none⟩ = some (.pointer (some ⟨fb, 0, none⟩)) := hA.r.cell 0
  have r1 : w.cell? ⟨rb, 1, none⟩ = some (.int .i64 r.t) := hA.r.cell 1
  have r2 : w.cell? ⟨rb, 2, none⟩ = some (.int .u8 r.ph) := hA.r.cell 2
  have r3 : w.cell? ⟨rb, 3, none⟩ = some (.int .u64 r.after) := hA.r.cell 3
  have r4 : w.cell? ⟨rb, 4, none⟩ = some (.int .u64 r.l) := hA.r.cell 4
  have r5 : w.cell? ⟨rb, 5, none⟩ = some (.int .u64 r.value) := hA.r.cell 5
  have r6 : w.cell? ⟨rb, 6, none⟩ = some (.bool r.lagged) := hA.r.cell 6
  have r7 : w.cell? ⟨rb, 7, none⟩ = some (.int .i64 r.err) := hA.r.cell 7
  have gf3 := hA.f.free 3
  have gf7 := hA.f.free 7
  have gr2 := hA.r.free 2
  have gr4 := hA.r.free 4
  have gr5 := hA.r.free 5
  have gr6 := hA.r.free 6
  have gr7 := hA.r.free 7
  have hne := hA.ne
  rw [hph] at r2
  have hv : decide (r.after < lk s.vs (F.first + 1)) = true := decide_eq_true hc
  clear hc
  have Hph := hid hph
  have Hh := hid h
  have HA := hid hA
  clear he hph hA
  go_enter Try.func33, Try.ntmps33
  go_wp2_with fail
  refine Mix.wp_region_mix (fun _ => True) (fun i => ([1, 0, 0, 0, 0, 0, 0, 0, 0, 0, 0, 0, 0, 0, 2, 0, 0, 1, 0, 0, 2] : List Nat).getD i 0) [0, 1, 2, 3, 4, 5, 6, 7, 8, 9, 10, 11, 12, 13, 14, 15, 16, 17, 18, 19, 20] (by kernel_rfl) (by kernel_rfl) ?_
  repeat (first | (refine Mix.mix_q (by simp only [List.getElem?_toArray, List.getElem?_cons_zero, List.getElem?_cons_succ]; exact rfl) rfl ?_; go_big_quiet_step (fail); refine wpQuiet_nil ?_) | (refine Mix.mix_p (by simp only [List.getElem?_toArray, List.getElem?_cons_zero, List.getElem?_cons_succ]; exact rfl) rfl rfl ?_; go_big_quiet_step (fail); refine wpQuiet_nil ?_))
  refine Mix.mix_e (by simp only [List.getElem?_toArray, List.getElem?_cons_zero, List.getElem?_cons_succ]; exact rfl) rfl fun W hW => ?_
  obtain ⟨n1, rfl⟩ := hW
  go_wp2_with fail
  refine (swap_ok B p cb lv s r.t (F.first + 1 : Nat) 0 _ (bank_drew h.b n1) ⟨ht.1, ht.2, by omega, by omega⟩ hlen hB ⟨by decide, by decide⟩).mono ?_
  rintro e w1 ⟨rfl, hs1⟩
  obtain ⟨lv', hA1⟩ := (HA.out.drewN n1).call hs1
  rw [Int.toNat_natCast]
  clear f0 f1 f2 f3 f4 f5 f6 f7 r0 r1 r2 r3 r4 r5 r6 r7 gf3 gf7 gr2 gr4 gr5 gr6 gr7 hne
  have f0 : w1.cell? ⟨fb, 0, none⟩ = some (.pointer (some ⟨p, 0, none⟩)) := hA1.f.cell 0
  have f1 : w1.cell? ⟨fb, 1, none⟩ = some (.int .i64 F.first) := hA1.f.cell 1
  have f2 : w1.cell? ⟨fb, 2, none⟩ = some (.int .i64 F.n) := hA1.f.cell 2
  have f3 : w1.cell? ⟨fb, 3, none⟩ = some (.int .u64 (cHead s F)) := hA1.f.cell 3
  have f4 : w1.cell? ⟨fb, 4, none⟩ = some (.int .u64 (cTail s F)) := hA1.f.cell 4
  have f5 : w1.cell? ⟨fb, 5, none⟩ = some (.int .u64 F.last) := hA1.f.cell 5
  have f6 : w1.cell? ⟨fb, 6, none⟩ = some (.bool F.pushing) := hA1.f.cell 6
  have f7 : w1.cell? ⟨fb, 7, none⟩ = some (.bool F.receiving) := hA1.f.cell 7
  have r0 : w1.cell? ⟨rb, 0, none⟩ = some (.pointer (some ⟨fb, 0, none⟩)) := hA1.r.cell 0
  have r1 : w1.cell? ⟨rb, 1, none⟩ = some (.int .i64 r.t) := hA1.r.cell 1
  have r2 : w1.cell? ⟨rb, 2, none⟩ = some (.int .u8 r.ph) := hA1.r.cell 2
  have r3 : w1.cell? ⟨rb, 3, none⟩ = some (.int .u64 r.after) := hA1.r.cell 3
  have r4 : w1.cell? ⟨rb, 4, none⟩ = some (.int .u64 r.l) := hA1.r.cell 4
  have r5 : w1.cell? ⟨rb, 5, none⟩ = some (.int .u64 r.value) := hA1.r.cell 5
  have r6 : w1.cell? ⟨rb, 6, none⟩ = some (.bool r.lagged) := hA1.r.cell 6
  have r7 : w1.cell? ⟨rb, 7, none⟩ = some (.int .i64 r.err) := hA1.r.cell 7
  have gf3 := hA1.f.free 3
  have gf7 := hA1.f.free 7
  have gr2 := hA1.r.free 2
  have gr4 := hA1.r.free 4
  have gr5 := hA1.r.free 5
  have gr6 := hA1.r.free 6
  have gr7 := hA1.r.free 7
  have hne := hA1.ne
  rw [Hph.out] at r2
  have HA1 := hid hA1
  have Hs1 := hid hs1
  clear hA1 hs1
  go_wp2_with fail
  repeat (first | (refine Mix.mix_q (by simp only [List.getElem?_toArray, List.getElem?_cons_zero, List.getElem?_cons_succ]; exact rfl) rfl ?_; go_big_quiet_step (fail); refine wpQuiet_nil ?_) | (refine Mix.mix_p (by simp only [List.getElem?_toArray, List.getElem?_cons_zero, List.getElem?_cons_succ]; exact rfl) rfl rfl ?_; go_big_quiet_step (fail); refine wpQuiet_nil ?_))
  refine Mix.mix_e (by simp only [List.getElem?_toArray, List.getElem?_cons_zero, List.getElem?_cons_succ]; exact rfl) rfl fun W2 hW2 => ?_
  obtain ⟨n2, rfl⟩ := hW2
  go_wp2_with fail
  refine Mix.mix_world fun w2 hw2 => ?_
  have hA2 := (HA1.out.drewN n2).putR 5 (.int .u64 (lk s.vs (F.first + 1)))
  rw [← hw2] at hA2
  clear f0 f1 f2 f3 f4 f5 f6 f7 r0 r1 r2 r3 r4 r5 r6 r7 gf3 gf7 gr2 gr4 gr5 gr6 gr7 hne
  clear hw2
  have f0 : w2.cell? ⟨fb, 0, none⟩ = some (.pointer (some ⟨p, 0, none⟩)) := hA2.f.cell 0
  have f1 : w2.cell? ⟨fb, 1, none⟩ = some (.int .i64 F.first) := hA2.f.cell 1
  have f2 : w2.cell? ⟨fb, 2, none⟩ = some (.int .i64 F.n) := hA2.f.cell 2
  have f3 : w2.cell? ⟨fb, 3, none⟩ = some (.int .u64 (cHead s F)) := hA2.f.cell 3
  have f4 : w2.cell? ⟨fb, 4, none⟩ = some (.int .u64 (cTail s F)) := hA2.f.cell 4
  have f5 : w2.cell? ⟨fb, 5, none⟩ = some (.int .u64 F.last) := hA2.f.cell 5
  have f6 : w2.cell? ⟨fb, 6, none⟩ = some (.bool F.pushing) := hA2.f.cell 6
  have f7 : w2.cell? ⟨fb, 7, none⟩ = some (.bool F.receiving) := hA2.f.cell 7
  have r0 : w2.cell? ⟨rb, 0, none⟩ = some (.pointer (some ⟨fb, 0, none⟩)) := hA2.r.cell 0
  have r1 : w2.cell? ⟨rb, 1, none⟩ = some (.int .i64 r.t) := hA2.r.cell 1
  have r2 : w2.cell? ⟨rb, 2, none⟩ = some (.int .u8 r.ph) := hA2.r.cell 2
  have r3 : w2.cell? ⟨rb, 3, none⟩ = some (.int .u64 r.after) := hA2.r.cell 3
  have r4 : w2.cell? ⟨rb, 4, none⟩ = some (.int .u64 r.l) := hA2.r.cell 4
  have r5 : w2.cell? ⟨rb, 5, none⟩ = some (.int .u64 (lk s.vs (F.first + 1))) := hA2.r.cell 5
  have r6 : w2.cell? ⟨rb, 6, none⟩ = some (.bool r.lagged) := hA2.r.cell 6
  have r7 : w2.cell? ⟨rb, 7, none⟩ = some (.int .i64 r.err) := hA2.r.cell 7
  have gf3 := hA2.f.free 3
  have gf7 := hA2.f.free 7
  have gr2 := hA2.r.free 2
  have gr4 := hA2.r.free 4
  have gr5 := hA2.r.free 5
  have gr6 := hA2.r.free 6
  have gr7 := hA2.r.free 7
  have hne := hA2.ne
  rw [Hph.out] at r2
  have HA2 := hid hA2
  clear hA2
  intro n3
  go_wp2_with fail
  refine Mix.wp_region_mix (fun _ => True) (fun i => ([0, 0, 0, 0, 0, 0, 0, 0, 0, 0, 0, 0, 2] : List Nat).getD i 0) [0, 1, 2, 3, 4, 5, 6, 7, 8, 9, 10, 11, 12] (by kernel_rfl) (by kernel_rfl) ?_
  repeat (first | (refine Mix.mix_q (by simp only [List.getElem?_toArray, List.getElem?_cons_zero, List.getElem?_cons_succ]; exact rfl) rfl ?_; go_big_quiet_step (fail); refine wpQuiet_nil ?_) | (refine Mix.mix_p (by simp only [List.getElem?_toArray, List.getElem?_cons_zero, List.getElem?_cons_succ]; exact rfl) rfl rfl ?_; go_big_quiet_step (fail); refine wpQuiet_nil ?_))
  refine Mix.mix_e (by simp only [List.getElem?_toArray, List.getElem?_cons_zero, List.getElem?_cons_succ]; exact rfl) rfl fun W3 hW3 => ?_
  obtain ⟨n4, rfl⟩ := hW3
  go_wp2_with fail
  refine Mix.mix_world fun w3 hw3 => ?_
  have hA3 := (HA2.out.drewN (n3 + n4)).putR 6 (.bool true)
  have hw3' : w3 = ((w2.drewN (n3 + n4)).setCell ⟨rb, 6, none⟩ (.bool true)) := by rw [hw3]
  rw [← hw3'] at hA3
  clear f0 f1 f2 f3 f4 f5 f6 f7 r0 r1 r2 r3 r4 r5 r6 r7 gf3 gf7 gr2 gr4 gr5 gr6 gr7 hne
  clear hw3 hw3'
  have f0 : w3.cell? ⟨fb, 0, none⟩ = some (.pointer (some ⟨p, 0, none⟩)) := hA3.f.cell 0
  have f1 : w3.cell? ⟨fb, 1, none⟩ = some (.int .i64 F.first) := hA3.f.cell 1
  have f2 : w3.cell? ⟨fb, 2, none⟩ = some (.int .i64 F.n) := hA3.f.cell 2
  have f3 : w3.cell? ⟨fb, 3, none⟩ = some (.int .u64 (cHead s F)) := hA3.f.cell 3
  have f4 : w3.cell? ⟨fb, 4, none⟩ = some (.int .u64 (cTail s F)) := hA3.f.cell 4
  have f5 : w3.cell? ⟨fb, 5, none⟩ = some (.int .u64 F.last) := hA3.f.cell 5
  have f6 : w3.cell? ⟨fb, 6, none⟩ = some (.bool F.pushing) := hA3.f.cell 6
  have f7 : w3.cell? ⟨fb, 7, none⟩ = some (.bool F.receiving) := hA3.f.cell 7
  have r0 : w3.cell? ⟨rb, 0, none⟩ = some (.pointer (some ⟨fb, 0, none⟩)) := hA3.r.cell 0
  have r1 : w3.cell? ⟨rb, 1, none⟩ = some (.int .i64 r.t) := hA3.r.cell 1
  have r2 : w3.cell? ⟨rb, 2, none⟩ = some (.int .u8 r.ph) := hA3.r.cell 2
  have r3 : w3.cell? ⟨rb, 3, none⟩ = some (.int .u64 r.after) := hA3.r.cell 3
  have r4 : w3.cell? ⟨rb, 4, none⟩ = some (.int .u64 r.l) := hA3.r.cell 4
  have r5 : w3.cell? ⟨rb, 5, none⟩ = some (.int .u64 (lk s.vs (F.first + 1))) := hA3.r.cell 5
  have r6 : w3.cell? ⟨rb, 6, none⟩ = some (.bool true) := hA3.r.cell 6
  have r7 : w3.cell? ⟨rb, 7, none⟩ = some (.int .i64 r.err) := hA3.r.cell 7
  have gf3 := hA3.f.free 3
  have gf7 := hA3.f.free 7
  have gr2 := hA3.r.free 2
  have gr4 := hA3.r.free 4
  have gr5 := hA3.r.free 5
  have gr6 := hA3.r.free 6
  have gr7 := hA3.r.free 7
  have hne := hA3.ne
  rw [Hph.out] at r2
  have HA3 := hid hA3
  clear hA3
  intro n5
  go_wp2_with fail
  go_ret2
  rw [← Hph.out]
  exact rres_close 0 Hh.out (HA3.out.drewN n5) (fdc_set (s := s) (F.first + 1) 0 rfl (by omega) (by omega)).symm rfl rfl (List.length_set ..) rfl

set_option maxRecDepth 100000 in
set_option maxHeartbeats 1000000 in
theorem rstep18b (hph : r.ph = 18) (hc : ¬ r.after < cLag s F) : Calls Try.prog 33 #[.pointer (some ⟨rb, 0, none⟩)] w (RRes B p cb fb rb lv F r (rstep s F r) w) := by
  have he : rstep s F r = (s.swap r.t (F.first + 1 : Nat) 0, { r with ph := 0, value := 0, lagged := false, err := 17 }) := by unfold rstep; rw [if_neg (by rw [hph]; decide), if_neg (by rw [hph]; decide), if_neg (by rw [hph]; decide), if_neg (by rw [hph]; decide), if_neg hc]
  rw [he]
  have hA := AtO.start h hq
  have hn := h.hn
  have hn1 := h.ok.n1
  have hr := h.ok.room
  have f0 : w.cell? ⟨fb, 0, none⟩ = some (.pointer (some ⟨p, 0, none⟩)) := hA.f.cell 0
  have f1 : w.cell? ⟨fb, 1, none⟩ = some (.int .i64 F.first) := hA.f.cell 1
  have f2 : w.cell? ⟨fb, 2, none⟩ = some (.int .i64 F.n) := hA.f.cell 2
  have f3 : w.cell? ⟨fb, 3, none⟩ = some (.int .u64 (cHead s F)) := hA.f.cell 3
  have f4 : w.cell? ⟨fb, 4, none⟩ = some (.int .u64 (cTail s F)) := hA.f.cell 4
  have f5 : w.cell? ⟨fb, 5, none⟩ = some (.int .u64 F.last) := hA.f.cell 5
  have f6 : w.cell? ⟨fb, 6, none⟩ = some (.bool F.pushing) := hA.f.cell 6
  have f7 : w.cell? ⟨fb, 7, none⟩ = some (.bool F.receiving) := hA.f.cell 7
  have r0 : w.cell? ⟨rb, 0, none⟩ = some (.pointer (some ⟨fb, 0, none⟩)) := hA.r.cell 0
  have r1 : w.cell? ⟨rb, 1, none⟩ = some (.int .i64 r.t) := hA.r.cell 1
  have r2 : w.cell? ⟨rb, 2, none⟩ = some (.int .u8 r.ph) := hA.r.cell 2
  have r3 : w.cell? ⟨rb, 3, none⟩ = some (.int .u64 r.after) := hA.r.cell 3
  have r4 : w.cell? ⟨rb, 4, none⟩ = some (.int .u64 r.l) := hA.r.cell 4
  have r5 : w.cell? ⟨rb, 5, none⟩ = some (.int .u64 r.value) := hA.r.cell 5
  have r6 : w.cell? ⟨rb, 6, none⟩ = some (.bool r.lagged) := hA.r.cell 6
  have r7 : w.cell? ⟨rb, 7, none⟩ = some (.int .i64 r.err) := hA.r.cell 7
  have gf3 := hA.f.free 3
  have gf7 := hA.f.free 7
  have gr2 := hA.r.free 2
  have gr4 := hA.r.free 4
  have gr5 := hA.r.free 5
  have gr6 := hA.r.free 6
  have gr7 := hA.r.free 7
  have hne := hA.ne
  rw [hph] at r2
  have hv : decide (r.after < lk s.vs (F.first + 1)) = false := decide_eq_false hc
  clear hc
  have Hph := hid hph
  have Hh := hid h
  have HA := hid hA
  clear he hph hA
  go_enter Try.func33, Try.ntmps33
  go_wp2_with fail
  refine Mix.wp_region_mix (fun _ => True) (fun i => ([1, 0, 0, 0, 0, 0, 0, 0, 0, 0, 0, 0, 0, 0, 2, 0, 0, 1, 0, 0, 2] : List Nat).getD i 0) [0, 1, 2, 3, 4, 5, 6, 7, 8, 9, 10, 11, 12, 13, 14, 15, 16, 17, 18, 19, 20] (by kernel_rfl) (by kernel_rfl) ?_
  repeat (first | (refine Mix.mix_q (by simp only [List.getElem?_toArray, List.getElem?_cons_zero, List.getElem?_cons_succ]; exact rfl) rfl ?_; go_big_quiet_step (fail); refine wpQuiet_nil ?_) | (refine Mix.mix_p (by simp only [List.getElem?_toArray, List.getElem?_cons_zero, List.getElem?_cons_succ]; exact rfl) rfl rfl ?_; go_big_quiet_step (fail); refine wpQuiet_nil ?_))
  refine Mix.mix_e (by simp only [List.getElem?_toArray, List.getElem?_cons_zero, List.getElem?_cons_succ]; exact rfl) rfl fun W hW => ?_
  obtain ⟨n1, rfl⟩ := hW
  go_wp2_with fail
  refine (swap_ok B p cb lv s r.t (F.first + 1 : Nat) 0 _ (bank_drew h.b n1) ⟨ht.1, ht.2, by omega, by omega⟩ hlen hB ⟨by decide, by decide⟩).mono ?_
  rintro e w1 ⟨rfl, hs1⟩
  obtain ⟨lv', hA1⟩ := (HA.out.drewN n1).call hs1
  rw [Int.toNat_natCast]
  clear f0 f1 f2 f3 f4 f5 f6 f7 r0 r1 r2 r3 r4 r5 r6 r7 gf3 gf7 gr2 gr4 gr5 gr6 gr7 hne
  have f0 : w1.cell? ⟨fb, 0, none⟩ = some (.pointer (some ⟨p, 0, none⟩)) := hA1.f.cell 0
  have f1 : w1.cell? ⟨fb, 1, none⟩ = some (.int .i64 F.first) := hA1.f.cell 1
  have f2 : w1.cell? ⟨fb, 2, none⟩ = some (.int .i64 F.n) := hA1.f.cell 2
  have f3 : w1.cell? ⟨fb, 3, none⟩ = some (.int .u64 (cHead s F)) := hA1.f.cell 3
  have f4 : w1.cell? ⟨fb, 4, none⟩ = some (.int .u64 (cTail s F)) := hA1.f.cell 4
  have f5 : w1.cell? ⟨fb, 5, none⟩ = some (.int .u64 F.last) := hA1.f.cell 5
  have f6 : w1.cell? ⟨fb, 6, none⟩ = some (.bool F.pushing) := hA1.f.cell 6
  have f7 : w1.cell? ⟨fb, 7, none⟩ = some (.bool F.receiving) := hA1.f.cell 7
  have r0 : w1.cell? ⟨rb, 0, none⟩ = some (.pointer (some ⟨fb, 0, none⟩)) := hA1.r.cell 0
  have r1 : w1.cell? ⟨rb, 1, none⟩ = some (.int .i64 r.t) := hA1.r.cell 1
  have r2 : w1.cell? ⟨rb, 2, none⟩ = some (.int .u8 r.ph) := hA1.r.cell 2
  have r3 : w1.cell? ⟨rb, 3, none⟩ = some (.int .u64 r.after) := hA1.r.cell 3
  have r4 : w1.cell? ⟨rb, 4, none⟩ = some (.int .u64 r.l) := hA1.r.cell 4
  have r5 : w1.cell? ⟨rb, 5, none⟩ = some (.int .u64 r.value) := hA1.r.cell 5
  have r6 : w1.cell? ⟨rb, 6, none⟩ = some (.bool r.lagged) := hA1.r.cell 6
  have r7 : w1.cell? ⟨rb, 7, none⟩ = some (.int .i64 r.err) := hA1.r.cell 7
  have gf3 := hA1.f.free 3
  have gf7 := hA1.f.free 7
  have gr2 := hA1.r.free 2
  have gr4 := hA1.r.free 4
  have gr5 := hA1.r.free 5
  have gr6 := hA1.r.free 6
  have gr7 := hA1.r.free 7
  have hne := hA1.ne
  rw [Hph.out] at r2
  have HA1 := hid hA1
  have Hs1 := hid hs1
  clear hA1 hs1
  go_wp2_with fail
  repeat (first | (refine Mix.mix_q (by simp only [List.getElem?_toArray, List.getElem?_cons_zero, List.getElem?_cons_succ]; exact rfl) rfl ?_; go_big_quiet_step (fail); refine wpQuiet_nil ?_) | (refine Mix.mix_p (by simp only [List.getElem?_toArray, List.getElem?_cons_zero, List.getElem?_cons_succ]; exact rfl) rfl rfl ?_; go_big_quiet_step (fail); refine wpQuiet_nil ?_))
  refine Mix.mix_e (by simp only [List.getElem?_toArray, List.getElem?_cons_zero, List.getElem?_cons_succ]; exact rfl) rfl fun W2 hW2 => ?_
  obtain ⟨n2, rfl⟩ := hW2
  go_wp2_with fail
  refine Mix.mix_world fun w2 hw2 => ?_
  have hA2 := (HA1.out.drewN n2).putR 5 (.int .u64 (lk s.vs (F.first + 1)))
  rw [← hw2] at hA2
  clear f0 f1 f2 f3 f4 f5 f6 f7 r0 r1 r2 r3 r4 r5 r6 r7 gf3 gf7 gr2 gr4 gr5 gr6 gr7 hne
  clear hw2
  have f0 : w2.cell? ⟨fb, 0, none⟩ = some (.pointer (some ⟨p, 0, none⟩)) := hA2.f.cell 0
  have f1 : w2.cell? ⟨fb, 1, none⟩ = some (.int .i64 F.first) := hA2.f.cell 1
  have f2 : w2.cell? ⟨fb, 2, none⟩ = some (.int .i64 F.n) := hA2.f.cell 2
  have f3 : w2.cell? ⟨fb, 3, none⟩ = some (.int .u64 (cHead s F)) := hA2.f.cell 3
  have f4 : w2.cell? ⟨fb, 4, none⟩ = some (.int .u64 (cTail s F)) := hA2.f.cell 4
  have f5 : w2.cell? ⟨fb, 5, none⟩ = some (.int .u64 F.last) := hA2.f.cell 5
  have f6 : w2.cell? ⟨fb, 6, none⟩ = some (.bool F.pushing) := hA2.f.cell 6
  have f7 : w2.cell? ⟨fb, 7, none⟩ = some (.bool F.receiving) := hA2.f.cell 7
  have r0 : w2.cell? ⟨rb, 0, none⟩ = some (.pointer (some ⟨fb, 0, none⟩)) := hA2.r.cell 0
  have r1 : w2.cell? ⟨rb, 1, none⟩ = some (.int .i64 r.t) := hA2.r.cell 1
  have r2 : w2.cell? ⟨rb, 2, none⟩ = some (.int .u8 r.ph) := hA2.r.cell 2
  have r3 : w2.cell? ⟨rb, 3, none⟩ = some (.int .u64 r.after) := hA2.r.cell 3
  have r4 : w2.cell? ⟨rb, 4, none⟩ = some (.int .u64 r.l) := hA2.r.cell 4
  have r5 : w2.cell? ⟨rb, 5, none⟩ = some (.int .u64 (lk s.vs (F.first + 1))) := hA2.r.cell 5
  have r6 : w2.cell? ⟨rb, 6, none⟩ = some (.bool r.lagged) := hA2.r.cell 6
  have r7 : w2.cell? ⟨rb, 7, none⟩ = some (.int .i64 r.err) := hA2.r.cell 7
  have gf3 := hA2.f.free 3
  have gf7 := hA2.f.free 7
  have gr2 := hA2.r.free 2
  have gr4 := hA2.r.free 4
  have gr5 := hA2.r.free 5
  have gr6 := hA2.r.free 6
  have gr7 := hA2.r.free 7
  have hne := hA2.ne
  rw [Hph.out] at r2
  have HA2 := hid hA2
  clear hA2
  intro n3
  go_wp2_with fail
  refine Mix.wp_region_mix (fun _ => True) (fun i => ([0, 0, 0, 0, 0, 0, 0, 0, 0, 0, 0, 0, 2] : List Nat).getD i 0) [0, 1, 2, 3, 4, 5, 6, 7, 8, 9, 10, 11, 12] (by kernel_rfl) (by kernel_rfl) ?_
  repeat (first | (refine Mix.mix_q (by simp only [List.getElem?_toArray, List.getElem?_cons_zero, List.getElem?_cons_succ]; exact rfl) rfl ?_; go_big_quiet_step (fail); refine wpQuiet_nil ?_) | (refine Mix.mix_p (by simp only [List.getElem?_toArray, List.getElem?_cons_zero, List.getElem?_cons_succ]; exact rfl) rfl rfl ?_; go_big_quiet_step (fail); refine wpQuiet_nil ?_))
  refine Mix.mix_e (by simp only [List.getElem?_toArray, List.getElem?_cons_zero, List.getElem?_cons_succ]; exact rfl) rfl fun W3 hW3 => ?_
  obtain ⟨n4, rfl⟩ := hW3
  go_wp2_with fail
  refine Mix.mix_world fun w3 hw3 => ?_
  have hA3 := (HA2.out.drewN (n3 + n4)).putR 6 (.bool false)
  have hw3' : w3 = ((w2.drewN (n3 + n4)).setCell ⟨rb, 6, none⟩ (.bool false)) := by rw [hw3]
  rw [← hw3'] at hA3
  clear f0 f1 f2 f3 f4 f5 f6 f7 r0 r1 r2 r3 r4 r5 r6 r7 gf3 gf7 gr2 gr4 gr5 gr6 gr7 hne
  clear hw3 hw3'
  have f0 : w3.cell? ⟨fb, 0, none⟩ = some (.pointer (some ⟨p, 0, none⟩)) := hA3.f.cell 0
  have f1 : w3.cell? ⟨fb, 1, none⟩ = some (.int .i64 F.first) := hA3.f.cell 1
  have f2 : w3.cell? ⟨fb, 2, none⟩ = some (.int .i64 F.n) := hA3.f.cell 2
  have f3 : w3.cell? ⟨fb, 3, none⟩ = some (.int .u64 (cHead s F)) := hA3.f.cell 3
  have f4 : w3.cell? ⟨fb, 4, none⟩ = some (.int .u64 (cTail s F)) := hA3.f.cell 4
  have f5 : w3.cell? ⟨fb, 5, none⟩ = some (.int .u64 F.last) := hA3.f.cell 5
  have f6 : w3.cell? ⟨fb, 6, none⟩ = some (.bool F.pushing) := hA3.f.cell 6
  have f7 : w3.cell? ⟨fb, 7, none⟩ = some (.bool F.receiving) := hA3.f.cell 7
  have r0 : w3.cell? ⟨rb, 0, none⟩ = some (.pointer (some ⟨fb, 0, none⟩)) := hA3.r.cell 0
  have r1 : w3.cell? ⟨rb, 1, none⟩ = some (.int .i64 r.t) := hA3.r.cell 1
  have r2 : w3.cell? ⟨rb, 2, none⟩ = some (.int .u8 r.ph) := hA3.r.cell 2
  have r3 : w3.cell? ⟨rb, 3, none⟩ = some (.int .u64 r.after) := hA3.r.cell 3
  have r4 : w3.cell? ⟨rb, 4, none⟩ = some (.int .u64 r.l) := hA3.r.cell 4
  have r5 : w3.cell? ⟨rb, 5, none⟩ = some (.int .u64 (lk s.vs (F.first + 1))) := hA3.r.cell 5
  have r6 : w3.cell? ⟨rb, 6, none⟩ = some (.bool false) := hA3.r.cell 6
  have r7 : w3.cell? ⟨rb, 7, none⟩ = some (.int .i64 r.err) := hA3.r.cell 7
  have gf3 := hA3.f.free 3
  have gf7 := hA3.f.free 7
  have gr2 := hA3.r.free 2
  have gr4 := hA3.r.free 4
  have gr5 := hA3.r.free 5
  have gr6 := hA3.r.free 6
  have gr7 := hA3.r.free 7
  have hne := hA3.ne
  rw [Hph.out] at r2
  have HA3 := hid hA3
  clear hA3
  intro n5
  go_wp2_with fail
  go_ret2
  rw [← Hph.out]
  exact rres_close 0 Hh.out (((HA3.out.drewN n5).putR 5 (.int .u64 0)).putR 7 (.int .i64 17)) (fdc_set (s := s) (F.first + 1) 0 rfl (by omega) (by omega)).symm rfl rfl (List.length_set ..) rfl

set_option maxRecDepth 100000 in
set_option maxHeartbeats 1000000 in
theorem rstep17a (hph : r.ph = 17) (hc : r.value ≤ r.after) : Calls Try.prog 33 #[.pointer (some ⟨rb, 0, none⟩)] w (RRes B p cb fb rb lv F r (rstep s F r) w) := by
  have he : rstep s F r = (s.store r.t (F.first + 2 : Nat) (w64 (cHead s F + 1)), { r with ph := 14, value := 0 }) := by unfold rstep; rw [if_neg (by rw [hph]; decide), if_neg (by rw [hph]; decide), if_neg (by rw [hph]; decide), if_pos hph, if_pos hc]
  rw [he]
  have hA := AtO.start h hq
  have hn := h.hn
  have hn1 := h.ok.n1
  have hr := h.ok.room
  have f0 : w.cell? ⟨fb, 0, none⟩ = some (.pointer (some ⟨p, 0, none⟩)) := hA.f.cell 0
  have f1 : w.cell? ⟨fb, 1, none⟩ = some (.int .i64 F.first) := hA.f.cell 1
  have f2 : w.cell? ⟨fb, 2, none⟩ = some (.int .i64 F.n) := hA.f.cell 2
  have f3 : w.cell? ⟨fb, 3, none⟩ = some (.int .u64 (cHead s F)) := hA.f.cell 3
  have f4 : w.cell? ⟨fb, 4, none⟩ = some (.int .u64 (cTail s F)) := hA.f.cell 4
  have f5 : w.cell? ⟨fb, 5, none⟩ = some (.int .u64 F.last) := hA.f.cell 5
  have f6 : w.cell? ⟨fb, 6, none⟩ = some (.bool F.pushing) := hA.f.cell 6
  have f7 : w.cell? ⟨fb, 7, none⟩ = some (.bool F.receiving) := hA.f.cell 7
  have r0 : w.cell? ⟨rb, 0, none⟩ = some (.pointer (some ⟨fb, 0, none⟩)) := hA.r.cell 0
  have r1 : w.cell? ⟨rb, 1, none⟩ = some (.int .i64 r.t) := hA.r.cell 1
  have r2 : w.cell? ⟨rb, 2, none⟩ = some (.int .u8 r.ph) := hA.r.cell 2
  have r3 : w.cell? ⟨rb, 3, none⟩ = some (.int .u64 r.after) := hA.r.cell 3
  have r4 : w.cell? ⟨rb, 4, none⟩ = some (.int .u64 r.l) := hA.r.cell 4
  have r5 : w.cell? ⟨rb, 5, none⟩ = some (.int .u64 r.value) := hA.r.cell 5
  have r6 : w.cell? ⟨rb, 6, none⟩ = some (.bool r.lagged) := hA.r.cell 6
  have r7 : w.cell? ⟨rb, 7, none⟩ = some (.int .i64 r.err) := hA.r.cell 7
  have gf3 := hA.f.free 3
  have gf7 := hA.f.free 7
  have gr2 := hA.r.free 2
  have gr4 := hA.r.free 4
  have gr5 := hA.r.free 5
  have gr6 := hA.r.free 6
  have gr7 := hA.r.free 7
  have hne := hA.ne
  rw [hph] at r2
  have hv : decide (r.value ≤ r.after) = true := decide_eq_true hc
  clear hc
  have hw : IntKind.u64.wrap (cHead s F + 1) = w64 (cHead s F + 1) := w64_wrap _
  have hbd := w64_bd (cHead s F + 1)
  generalize w64 (cHead s F + 1) = t1 at hw hbd ⊢
  have Hph := hid hph
  have Hh := hid h
  have HA := hid hA
  clear he hph hA
  go_enter Try.func33, Try.ntmps33
  go_wp2_with fail
  refine Mix.wp_region_mix (fun _ => True) (fun i => ([0, 0, 0, 0, 0, 0, 0, 0, 0, 0, 0, 0, 0, 0, 0, 0, 0, 0, 0, 0, 2] : List Nat).getD i 0) [0, 1, 2, 3, 4, 5, 6, 7, 8, 9, 10, 11, 12, 13, 14, 15, 16, 17, 18, 19, 20] (by kernel_rfl) (by kernel_rfl) ?_
  refine Mix.mix_world fun W0 hW0 => ?_
  have hA0 := HA.out.putF 3 (.int .u64 t1)
  rw [← hW0] at hA0
  clear f0 f1 f2 f3 f4 f5 f6 f7 r0 r1 r2 r3 r4 r5 r6 r7 gf3 gf7 gr2 gr4 gr5 gr6 gr7 hne
  clear hW0 hw
  have f0 : W0.cell? ⟨fb, 0, none⟩ = some (.pointer (some ⟨p, 0, none⟩)) := hA0.f.cell 0
  have f1 : W0.cell? ⟨fb, 1, none⟩ = some (.int .i64 F.first) := hA0.f.cell 1
  have f2 : W0.cell? ⟨fb, 2, none⟩ = some (.int .i64 F.n) := hA0.f.cell 2
  have f3 : W0.cell? ⟨fb, 3, none⟩ = some (.int .u64 t1) := hA0.f.cell 3
  have f4 : W0.cell? ⟨fb, 4, none⟩ = some (.int .u64 (cTail s F)) := hA0.f.cell 4
  have f5 : W0.cell? ⟨fb, 5, none⟩ = some (.int .u64 F.last) := hA0.f.cell 5
  have f6 : W0.cell? ⟨fb, 6, none⟩ = some (.bool F.pushing) := hA0.f.cell 6
  have f7 : W0.cell? ⟨fb, 7, none⟩ = some (.bool F.receiving) := hA0.f.cell 7
  have r0 : W0.cell? ⟨rb, 0, none⟩ = some (.pointer (some ⟨fb, 0, none⟩)) := hA0.r.cell 0
  have r1 : W0.cell? ⟨rb, 1, none⟩ = some (.int .i64 r.t) := hA0.r.cell 1
  have r2 : W0.cell? ⟨rb, 2, none⟩ = some (.int .u8 r.ph) := hA0.r.cell 2
  have r3 : W0.cell? ⟨rb, 3, none⟩ = some (.int .u64 r.after) := hA0.r.cell 3
  have r4 : W0.cell? ⟨rb, 4, none⟩ = some (.int .u64 r.l) := hA0.r.cell 4
  have r5 : W0.cell? ⟨rb, 5, none⟩ = some (.int .u64 r.value) := hA0.r.cell 5
  have r6 : W0.cell? ⟨rb, 6, none⟩ = some (.bool r.lagged) := hA0.r.cell 6
  have r7 : W0.cell? ⟨rb, 7, none⟩ = some (.int .i64 r.err) := hA0.r.cell 7
  have gf3 := hA0.f.free 3
  have gf7 := hA0.f.free 7
  have gr2 := hA0.r.free 2
  have gr4 := hA0.r.free 4
  have gr5 := hA0.r.free 5
  have gr6 := hA0.r.free 6
  have gr7 := hA0.r.free 7
  have hne := hA0.ne
  rw [Hph.out] at r2
  have HA0 := hid hA0
  clear hA0
  repeat (first | (refine Mix.mix_q (by simp only [List.getElem?_toArray, List.getElem?_cons_zero, List.getElem?_cons_succ]; exact rfl) rfl ?_; go_big_quiet_step (fail); refine wpQuiet_nil ?_) | (refine Mix.mix_p (by simp only [List.getElem?_toArray, List.getElem?_cons_zero, List.getElem?_cons_succ]; exact rfl) rfl rfl ?_; go_big_quiet_step (fail); refine wpQuiet_nil ?_))
  refine Mix.mix_e (by simp only [List.getElem?_toArray, List.getElem?_cons_zero, List.getElem?_cons_succ]; exact rfl) rfl fun W hW => ?_
  obtain ⟨n1, rfl⟩ := hW
  go_wp2_with fail
  refine (store_ok B p cb lv s r.t (F.first + 2 : Nat) t1 _ (bank_drew HA0.out.b n1) ⟨ht.1, ht.2, by omega, by omega⟩ hlen (Nat.le_trans hB HA0.out.z) hbd).mono ?_
  rintro e w1 ⟨rfl, hs1⟩
  obtain ⟨lv', hA1⟩ := (HA0.out.drewN n1).call hs1
  clear f0 f1 f2 f3 f4 f5 f6 f7 r0 r1 r2 r3 r4 r5 r6 r7 gf3 gf7 gr2 gr4 gr5 gr6 gr7 hne
  have f0 : w1.cell? ⟨fb, 0, none⟩ = some (.pointer (some ⟨p, 0, none⟩)) := hA1.f.cell 0
  have f1 : w1.cell? ⟨fb, 1, none⟩ = some (.int .i64 F.first) := hA1.f.cell 1
  have f2 : w1.cell? ⟨fb, 2, none⟩ = some (.int .i64 F.n) := hA1.f.cell 2
  have f3 : w1.cell? ⟨fb, 3, none⟩ = some (.int .u64 t1) := hA1.f.cell 3
  have f4 : w1.cell? ⟨fb, 4, none⟩ = some (.int .u64 (cTail s F)) := hA1.f.cell 4
  have f5 : w1.cell? ⟨fb, 5, none⟩ = some (.int .u64 F.last) := hA1.f.cell 5
  have f6 : w1.cell? ⟨fb, 6, none⟩ = some (.bool F.pushing) := hA1.f.cell 6
  have f7 : w1.cell? ⟨fb, 7, none⟩ = some (.bool F.receiving) := hA1.f.cell 7
  have r0 : w1.cell? ⟨rb, 0, none⟩ = some (.pointer (some ⟨fb, 0, none⟩)) := hA1.r.cell 0
  have r1 : w1.cell? ⟨rb, 1, none⟩ = some (.int .i64 r.t) := hA1.r.cell 1
  have r2 : w1.cell? ⟨rb, 2, none⟩ = some (.int .u8 r.ph) := hA1.r.cell 2
  have r3 : w1.cell? ⟨rb, 3, none⟩ = some (.int .u64 r.after) := hA1.r.cell 3
  have r4 : w1.cell? ⟨rb, 4, none⟩ = some (.int .u64 r.l) := hA1.r.cell 4
  have r5 : w1.cell? ⟨rb, 5, none⟩ = some (.int .u64 r.value) := hA1.r.cell 5
  have r6 : w1.cell? ⟨rb, 6, none⟩ = some (.bool r.lagged) := hA1.r.cell 6
  have r7 : w1.cell? ⟨rb, 7, none⟩ = some (.int .i64 r.err) := hA1.r.cell 7
  have gf3 := hA1.f.free 3
  have gf7 := hA1.f.free 7
  have gr2 := hA1.r.free 2
  have gr4 := hA1.r.free 4
  have gr5 := hA1.r.free 5
  have gr6 := hA1.r.free 6
  have gr7 := hA1.r.free 7
  have hne := hA1.ne
  rw [Hph.out] at r2
  have HA1 := hid hA1
  have Hs1 := hid hs1
  clear hA1 hs1
  go_wp2_with fail
  repeat (first | (refine Mix.mix_q (by simp only [List.getElem?_toArray, List.getElem?_cons_zero, List.getElem?_cons_succ]; exact rfl) rfl ?_; go_big_quiet_step (fail); refine wpQuiet_nil ?_) | (refine Mix.mix_p (by simp only [List.getElem?_toArray, List.getElem?_cons_zero, List.getElem?_cons_succ]; exact rfl) rfl rfl ?_; go_big_quiet_step (fail); refine wpQuiet_nil ?_))
  intro n2
  go_wp2_with fail
  go_quiet (fail)
  go_wp2_with fail
  go_ret2
  rw [← Hph.out]
  refine rres_close 14 Hh.out ((HA1.out.drewN (n2 + nq)).putR 5 (.int .u64 0)) ?_ rfl rfl (List.length_set ..) rfl
  have e1 : cTail (s.store r.t (F.first + 2 : Nat) t1) F = cTail s F := lk_set_ne _ (by rw [Int.toNat_natCast]; omega)
  have e2 : cHead (s.store r.t (F.first + 2 : Nat) t1) F = t1 := by
    show lk (s.vs.set ((F.first + 2 : Nat) : Int).toNat t1) (F.first + 2) = t1
    rw [Int.toNat_natCast]; exact lk_set _ (by omega)
  unfold fdCells
  rw [e1, e2]
  rfl

set_option maxRecDepth 100000 in
set_option maxHeartbeats 1000000 in
theorem rstep17b (hph : r.ph = 17) (hc : ¬ r.value ≤ r.after) : Calls Try.prog 33 #[.pointer (some ⟨rb, 0, none⟩)] w (RRes B p cb fb rb lv F r (rstep s F r) w) := by
  have he : rstep s F r = (s.store r.t (F.first + 2 : Nat) (w64 (cHead s F + 1)), { r with ph := 0 }) := by unfold rstep; rw [if_neg (by rw [hph]; decide), if_neg (by rw [hph]; decide), if_neg (by rw [hph]; decide), if_pos hph, if_neg hc]
  rw [he]
  have hA := AtO.start h hq
  have hn := h.hn
  have hn1 := h.ok.n1
  have hr := h.ok.room
  have f0 : w.cell? ⟨fb, 0, none⟩ = some (.pointer (some ⟨p, 0, none⟩)) := hA.f.cell 0
  have f1 : w.cell? ⟨fb, 1, none⟩ = some (.int .i64 F.first) := hA.f.cell 1
  have f2 : w.cell? ⟨fb, 2, none⟩ = some (.int .i64 F.n) := hA.f.cell 2
  have f3 : w.cell? ⟨fb, 3, none⟩ = some (.int .u64 (cHead s F)) := hA.f.cell 3
  have f4 : w.cell? ⟨fb, 4, none⟩ = some (.int .u64 (cTail s F)) := hA.f.cell 4
  have f5 : w.cell? ⟨fb, 5, none⟩ = some (.int .u64 F.last) := hA.f.cell 5
  have f6 : w.cell? ⟨fb, 6, none⟩ = some (.bool F.pushing) := hA.f.cell 6
  have f7 : w.cell? ⟨fb, 7, none⟩ = some (.bool F.receiving) := hA.f.cell 7
  have r0 : w.cell? ⟨rb, 0, none⟩ = some (.pointer (some ⟨fb, 0, none⟩)) := hA.r.cell 0
  have r1 : w.cell? ⟨rb, 1, none⟩ = some (.int .i64 r.t) := hA.r.cell 1
  have r2 : w.cell? ⟨rb, 2, none⟩ = some (.int .u8 r.ph) := hA.r.cell 2
  have r3 : w.cell? ⟨rb, 3, none⟩ = some (.int .u64 r.after) := hA.r.cell 3
  have r4 : w.cell? ⟨rb, 4, none⟩ = some (.int .u64 r.l) := hA.r.cell 4
  have r5 : w.cell? ⟨rb, 5, none⟩ = some (.int .u64 r.value) := hA.r.cell 5
  have r6 : w.cell? ⟨rb, 6, none⟩ = some (.bool r.lagged) := hA.r.cell 6
  have r7 : w.cell? ⟨rb, 7, none⟩ = some (.int .i64 r.err) := hA.r.cell 7
  have gf3 := hA.f.free 3
  have gf7 := hA.f.free 7
  have gr2 := hA.r.free 2
  have gr4 := hA.r.free 4
  have gr5 := hA.r.free 5
  have gr6 := hA.r.free 6
  have gr7 := hA.r.free 7
  have hne := hA.ne
  rw [hph] at r2
  have hv : decide (r.value ≤ r.after) = false := decide_eq_false hc
  clear hc
  have hw : IntKind.u64.wrap (cHead s F + 1) = w64 (cHead s F + 1) := w64_wrap _
  have hbd := w64_bd (cHead s F + 1)
  generalize w64 (cHead s F + 1) = t1 at hw hbd ⊢
  have Hph := hid hph
  have Hh := hid h
  have HA := hid hA
  clear he hph hA
  go_enter Try.func33, Try.ntmps33
  go_wp2_with fail
  refine Mix.wp_region_mix (fun _ => True) (fun i => ([0, 0, 0, 0, 0, 0, 0, 0, 0, 0, 0, 0, 0, 0, 0, 0, 0, 0, 0, 0, 2] : List Nat).getD i 0) [0, 1, 2, 3, 4, 5, 6, 7, 8, 9, 10, 11, 12, 13, 14, 15, 16, 17, 18, 19, 20] (by kernel_rfl) (by kernel_rfl) ?_
  refine Mix.mix_world fun W0 hW0 => ?_
  have hA0 := HA.out.putF 3 (.int .u64 t1)
  rw [← hW0] at hA0
  clear f0 f1 f2 f3 f4 f5 f6 f7 r0 r1 r2 r3 r4 r5 r6 r7 gf3 gf7 gr2 gr4 gr5 gr6 gr7 hne
  clear hW0 hw
  have f0 : W0.cell? ⟨fb, 0, none⟩ = some (.pointer (some ⟨p, 0, none⟩)) := hA0.f.cell 0
  have f1 : W0.cell? ⟨fb, 1, none⟩ = some (.int .i64 F.first) := hA0.f.cell 1
  have f2 : W0.cell? ⟨fb, 2, none⟩ = some (.int .i64 F.n) := hA0.f.cell 2
  have f3 : W0.cell? ⟨fb, 3, none⟩ = some (.int .u64 t1) := hA0.f.cell 3
  have f4 : W0.cell? ⟨fb, 4, none⟩ = some (.int .u64 (cTail s F)) := hA0.f.cell 4
  have f5 : W0.cell? ⟨fb, 5, none⟩ = some (.int .u64 F.last) := hA0.f.cell 5
  have f6 : W0.cell? ⟨fb, 6, none⟩ = some (.bool F.pushing) := hA0.f.cell 6
  have f7 : W0.cell? ⟨fb, 7, none⟩ = some (.bool F.receiving) := hA0.f.cell 7
  have r0 : W0.cell? ⟨rb, 0, none⟩ = some (.pointer (some ⟨fb, 0, none⟩)) := hA0.r.cell 0
  have r1 : W0.cell? ⟨rb, 1, none⟩ = some (.int .i64 r.t) := hA0.r.cell 1
  have r2 : W0.cell? ⟨rb, 2, none⟩ = some (.int .u8 r.ph) := hA0.r.cell 2
  have r3 : W0.cell? ⟨rb, 3, none⟩ = some (.int .u64 r.after) := hA0.r.cell 3
  have r4 : W0.cell? ⟨rb, 4, none⟩ = some (.int .u64 r.l) := hA0.r.cell 4
  have r5 : W0.cell? ⟨rb, 5, none⟩ = some (.int .u64 r.value) := hA0.r.cell 5
  have r6 : W0.cell? ⟨rb, 6, none⟩ = some (.bool r.lagged) := hA0.r.cell 6
  have r7 : W0.cell? ⟨rb, 7, none⟩ = some (.int .i64 r.err) := hA0.r.cell 7
  have gf3 := hA0.f.free 3
  have gf7 := hA0.f.free 7
  have gr2 := hA0.r.free 2
  have gr4 := hA0.r.free 4
  have gr5 := hA0.r.free 5
  have gr6 := hA0.r.free 6
  have gr7 := hA0.r.free 7
  have hne := hA0.ne
  rw [Hph.out] at r2
  have HA0 := hid hA0
  clear hA0
  repeat (first | (refine Mix.mix_q (by simp only [List.getElem?_toArray, List.getElem?_cons_zero, List.getElem?_cons_succ]; exact rfl) rfl ?_; go_big_quiet_step (fail); refine wpQuiet_nil ?_) | (refine Mix.mix_p (by simp only [List.getElem?_toArray, List.getElem?_cons_zero, List.getElem?_cons_succ]; exact rfl) rfl rfl ?_; go_big_quiet_step (fail); refine wpQuiet_nil ?_))
  refine Mix.mix_e (by simp only [List.getElem?_toArray, List.getElem?_cons_zero, List.getElem?_cons_succ]; exact rfl) rfl fun W hW => ?_
  obtain ⟨n1, rfl⟩ := hW
  go_wp2_with fail
  refine (store_ok B p cb lv s r.t (F.first + 2 : Nat) t1 _ (bank_drew HA0.out.b n1) ⟨ht.1, ht.2, by omega, by omega⟩ hlen (Nat.le_trans hB HA0.out.z) hbd).mono ?_
  rintro e w1 ⟨rfl, hs1⟩
  obtain ⟨lv', hA1⟩ := (HA0.out.drewN n1).call hs1
  clear f0 f1 f2 f3 f4 f5 f6 f7 r0 r1 r2 r3 r4 r5 r6 r7 gf3 gf7 gr2 gr4 gr5 gr6 gr7 hne
  have f0 : w1.cell? ⟨fb, 0, none⟩ = some (.pointer (some ⟨p, 0, none⟩)) := hA1.f.cell 0
  have f1 : w1.cell? ⟨fb, 1, none⟩ = some (.int .i64 F.first) := hA1.f.cell 1
  have f2 : w1.cell? ⟨fb, 2, none⟩ = some (.int .i64 F.n) := hA1.f.cell 2
  have f3 : w1.cell? ⟨fb, 3, none⟩ = some (.int .u64 t1) := hA1.f.cell 3
  have f4 : w1.cell? ⟨fb, 4, none⟩ = some (.int .u64 (cTail s F)) := hA1.f.cell 4
  have f5 : w1.cell? ⟨fb, 5, none⟩ = some (.int .u64 F.last) := hA1.f.cell 5
  have f6 : w1.cell? ⟨fb, 6, none⟩ = some (.bool F.pushing) := hA1.f.cell 6
  have f7 : w1.cell? ⟨fb, 7, none⟩ = some (.bool F.receiving) := hA1.f.cell 7
  have r0 : w1.cell? ⟨rb, 0, none⟩ = some (.pointer (some ⟨fb, 0, none⟩)) := hA1.r.cell 0
  have r1 : w1.cell? ⟨rb, 1, none⟩ = some (.int .i64 r.t) := hA1.r.cell 1
  have r2 : w1.cell? ⟨rb, 2, none⟩ = some (.int .u8 r.ph) := hA1.r.cell 2
  have r3 : w1.cell? ⟨rb, 3, none⟩ = some (.int .u64 r.after) := hA1.r.cell 3
  have r4 : w1.cell? ⟨rb, 4, none⟩ = some (.int .u64 r.l) := hA1.r.cell 4
  have r5 : w1.cell? ⟨rb, 5, none⟩ = some (.int .u64 r.value) := hA1.r.cell 5
  have r6 : w1.cell? ⟨rb, 6, none⟩ = some (.bool r.lagged) := hA1.r.cell 6
  have r7 : w1.cell? ⟨rb, 7, none⟩ = some (.int .i64 r.err) := hA1.r.cell 7
  have gf3 := hA1.f.free 3
  have gf7 := hA1.f.free 7
  have gr2 := hA1.r.free 2
  have gr4 := hA1.r.free 4
  have gr5 := hA1.r.free 5
  have gr6 := hA1.r.free 6
  have gr7 := hA1.r.free 7
  have hne := hA1.ne
  rw [Hph.out] at r2
  have HA1 := hid hA1
  have Hs1 := hid hs1
  clear hA1 hs1
  go_wp2_with fail
  repeat (first | (refine Mix.mix_q (by simp only [List.getElem?_toArray, List.getElem?_cons_zero, List.getElem?_cons_succ]; exact rfl) rfl ?_; go_big_quiet_step (fail); refine wpQuiet_nil ?_) | (refine Mix.mix_p (by simp only [List.getElem?_toArray, List.getElem?_cons_zero, List.getElem?_cons_succ]; exact rfl) rfl rfl ?_; go_big_quiet_step (fail); refine wpQuiet_nil ?_))
  intro n2
  go_wp2_with fail
  go_quiet (fail)
  go_wp2_with fail
  go_ret2
  rw [← Hph.out]
  refine rres_close 0 Hh.out (HA1.out.drewN (n2 + nq)) ?_ rfl rfl (List.length_set ..) rfl
  have e1 : cTail (s.store r.t (F.first + 2 : Nat) t1) F = cTail s F := lk_set_ne _ (by rw [Int.toNat_natCast]; omega)
  have e2 : cHead (s.store r.t (F.first + 2 : Nat) t1) F = t1 := by
    show lk (s.vs.set ((F.first + 2 : Nat) : Int).toNat t1) (F.first + 2) = t1
    rw [Int.toNat_natCast]; exact lk_set _ (by omega)
  unfold fdCells
  rw [e1, e2]
  rfl
end

/-- A step of a reception. -/
theorem rstep_any (B p cb fb rb : Nat) (lv : Value) (s : BS) (F : Fd) (r : Rd) (w : World) (h : FeedM B w p cb fb lv s F) (hq : Blk w rb 108 (rdCells fb r)) (ht : 0 ≤ r.t ∧ r.t < 16) (hlen : s.lg.length < 1000000) (hB : B ≤ w.heap.size)
    (hph : r.ph = 14 ∨ r.ph = 15 ∨ r.ph = 16 ∨ r.ph = 17 ∨ r.ph = 18) : Calls Try.prog 33 #[.pointer (some ⟨rb, 0, none⟩)] w (RRes B p cb fb rb lv F r (rstep s F r) w) := by
  rcases hph with hph | hph | hph | hph | hph
  · exact rstep14 B p cb fb rb lv s F r w h hq ht hlen hB hph
  · by_cases hc : cTail s F = cHead s F
    · by_cases hc2 : r.l = 0
      · exact rstep15c B p cb fb rb lv s F r w h hq ht hlen hB hph hc hc2
      · exact rstep15b B p cb fb rb lv s F r w h hq ht hlen hB hph hc hc2
    · exact rstep15a B p cb fb rb lv s F r w h hq ht hlen hB hph hc
  · exact rstep16 B p cb fb rb lv s F r w h hq ht hlen hB hph
  · by_cases hc : r.value ≤ r.after
    · exact rstep17a B p cb fb rb lv s F r w h hq ht hlen hB hph hc
    · exact rstep17b B p cb fb rb lv s F r w h hq ht hlen hB hph hc
  · by_cases hc : r.after < cLag s F
    · exact rstep18a B p cb fb rb lv s F r w h hq ht hlen hB hph hc
    · exact rstep18b B p cb fb rb lv s F r w h hq ht hlen hB hph hc
end Go.Proofs.Ytonjbofdmmnpdaa
