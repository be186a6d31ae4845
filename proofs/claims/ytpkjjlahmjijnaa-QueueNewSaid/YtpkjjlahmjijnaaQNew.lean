/- QueueNew: the walk. -/
import Derived.Test.YtpkjjlahmjijnaaQNewB
namespace Go.Proofs.Ytpkjjlahmjijnaa
open Go.RowKit
set_option linter.unusedVariables false
set_option linter.unusedSimpArgs false

theorem bpeek0 {B p cb : Nat} {lv : Value} {s : BS} {w : World} (h : Bank B w p cb lv s.vs s.lg) (c : Nat) (hc : c < s.vs.length) (hz : lk s.vs c = 0) (k : Nat) :
    Calls Try.prog 55 #[.pointer (some ⟨p, 0, none⟩), .int .i64 c] (w.drewN k) fun e w'' => e = .returned (.tuple #[.int .u64 0, .bool true]) ∧ ∃ m, w'' = w.drewN m :=
  Calls.quiet_of_same ((peek_ok B p cb lv s c (w.drewN k) (h.ch ((Ch.refl (fun _ => False) w).drewN k) id id (fun _ _ => id)) (by omega) (by omega)).mono fun e w' ⟨he, hw⟩ => ⟨by rw [he, Int.toNat_natCast, hz], hw.symm⟩)

section
variable (B p cb qb : Nat) (lv : Value) (s : BS) (hd tl : Nat) (r n : Int) (w : World) (h : Bank B w p cb lv s.vs s.lg) (hq : Blk w qb 96 #[.pointer (some ⟨p, 0, none⟩), .int .i64 hd, .int .i64 tl, .int .i64 r, .int .u64 n, .pointer none]) (h1 : hd < s.vs.length ∧ lk s.vs hd = 0) (h2 : tl < s.vs.length ∧ lk s.vs tl = 0)
include h hq h1 h2
set_option maxHeartbeats 400000 in
theorem qbounds0 : Calls Try.prog 54 #[.pointer (some ⟨qb, 0, none⟩)] w fun e w' => e = .returned (.tuple #[.int .u64 0, .int .u64 0]) ∧ ∃ n, w' = w.drewN n := by
  have g0 : w.cell? ⟨qb, 0, none⟩ = some (.pointer (some ⟨p, 0, none⟩)) := hq.cell 0
  have g1 : w.cell? ⟨qb, 1, none⟩ = some (.int .i64 hd) := hq.cell 1
  have g2 : w.cell? ⟨qb, 2, none⟩ = some (.int .i64 tl) := hq.cell 2
  have H := hid h
  have H1 := hid h1
  have H2 := hid h2
  clear h hq h1 h2
  go_enter Try.func54, Try.ntmps54
  go_wp2_with fail
  refine Mix.wp_region_mix (fun _ => True) (fun i => ([0, 0, 0, 0, 0, 0, 0, 0, 0, 0, 0, 0, 0] : List Nat).getD i 0) [0, 1, 2, 3, 4, 5, 6, 7, 8, 9, 10, 11, 12] (by kernel_rfl) (by kernel_rfl) ?_
  repeat (refine Mix.mix_q (by simp only [List.getElem?_toArray, List.getElem?_cons_zero, List.getElem?_cons_succ]; exact rfl) rfl ?_; go_big_quiet_step ((go_at_call 55; exact bpeek0 H.out hd H1.out.1 H1.out.2 _)); refine wpQuiet_nil ?_)
  intro n1
  go_wp2_with fail
  refine Mix.wp_region_mix (fun _ => True) (fun i => ([0, 0, 0, 0, 0, 0, 0, 0, 0, 0, 0, 0, 0] : List Nat).getD i 0) [0, 1, 2, 3, 4, 5, 6, 7, 8, 9, 10, 11, 12] (by kernel_rfl) (by kernel_rfl) ?_
  refine Mix.mix_world fun wB hwB => ?_
  have HB := hid (show Bank B wB p cb lv s.vs s.lg by rw [hwB]; exact H.out.ch ((Ch.refl (fun _ => False) w).drewN n1) id id (fun _ _ => id))
  have g0' : wB.cell? ⟨qb, 0, none⟩ = some (.pointer (some ⟨p, 0, none⟩)) := by rw [hwB]; exact g0
  have g2' : wB.cell? ⟨qb, 2, none⟩ = some (.int .i64 tl) := by rw [hwB]; exact g2
  have HwB := hid hwB
  clear hwB g0 g1 g2
  repeat (refine Mix.mix_q (by simp only [List.getElem?_toArray, List.getElem?_cons_zero, List.getElem?_cons_succ]; exact rfl) rfl ?_; go_big_quiet_step ((go_at_call 55; exact bpeek0 HB.out tl H2.out.1 H2.out.2 _)); refine wpQuiet_nil ?_)
  intro n2
  go_wp2_with fail
  go_ret2
  exact ⟨rfl, n1 + n2, by rw [HwB.out]; exact World.drewN_drewN _ _ _⟩
set_option maxHeartbeats 400000 in
theorem qlen0 : Calls Try.prog 17 #[.pointer (some ⟨qb, 0, none⟩)] w fun e w' => e = .returned (.int .i64 0) ∧ ∃ n, w' = w.drewN n := by
  go_enter Try.func17, Try.ntmps17
  go_wp2_with fail
  refine (qbounds0 B p cb qb lv s hd tl r n w h hq h1 h2).mono ?_
  rintro e w' ⟨rfl, n1, rfl⟩
  go_wp2_with fail
  go_ret
  exact ⟨rfl, _, rfl⟩
set_option maxHeartbeats 400000 in
theorem qlist0 : Calls Try.prog 18 #[.pointer (some ⟨qb, 0, none⟩)] w fun e w' => e = .returned (.slice none 0 0) ∧ ∃ n, w' = w.drewN n := by
  go_enter Try.func18, Try.ntmps18
  go_wp2_with fail
  refine (qbounds0 B p cb qb lv s hd tl r n w h hq h1 h2).mono ?_
  rintro e w' ⟨rfl, n1, rfl⟩
  go_wp2_with fail
  go_loopw [3, 6] (fun v i wr => v = .slice none 0 0 ∧ i = .int .u64 0 ∧ ∃ d, wr = w.drewN d) (fun _ _ _ => 0)
  case atStart => exact ⟨rfl, rfl, _, rfl⟩
  case round =>
    obtain ⟨rfl, rfl, d, rfl⟩ := hrel
    go_wp2_with fail
    go_ret
    exact ⟨rfl, _, rfl⟩
end

theorem qerr_zero {vs : List Int} {hd tl r n : Int} (h : qerr vs hd tl r n = 0) : ∃ a b : Nat, hd = a ∧ tl = b ∧ (a < vs.length ∧ lk vs a = 0) ∧ (b < vs.length ∧ lk vs b = 0) := by
  unfold qerr at h
  split at h
  · cases h
  · split at h
    · cases h
    · split at h
      · cases h
      · split at h
        · cases h
        · rename_i h1 h2 h3 h4
          have h2' : (0 ≤ hd ∧ hd < vs.length) ∧ (0 ≤ tl ∧ tl < vs.length) ∧ (0 ≤ r ∧ r ≤ vs.length - n) := by
            by_cases hc : (0 ≤ hd ∧ hd < vs.length) ∧ (0 ≤ tl ∧ tl < vs.length) ∧ (0 ≤ r ∧ r ≤ vs.length - n)
            · exact hc
            · exact absurd hc h2
          have key : ∀ j : Nat, j < vs.length → ((j : Int) = hd ∨ (j : Int) = tl) → lk vs j = 0 := by
            intro j hj ho
            by_cases hz : lk vs j = 0
            · exact hz
            · exact absurd ⟨j, hj, hz, ho.elim .inl (fun e => .inr (.inl e))⟩ h4
          obtain ⟨a, rfl⟩ := Int.eq_ofNat_of_zero_le h2'.1.1
          obtain ⟨b, rfl⟩ := Int.eq_ofNat_of_zero_le h2'.2.1.1
          exact ⟨a, b, rfl, rfl, ⟨by omega, key a (by omega) (.inl rfl)⟩, ⟨by omega, key b (by omega) (.inr rfl)⟩⟩

def placeKs : List (Option IntKind) := [some .i64, some .i64, some .i64, some .i64, some .i64, some .i64, some .u64]
set_option maxRecDepth 100000 in
set_option maxHeartbeats 2000000 in
theorem walkQNew (z : List Value) (w : World) (hz : Fits placeKs z) : Calls Try.prog 3 #[.agg z.toArray] w fun e w' => e = .returned (.bool true) ∧ Below w.heap.size w w' := by
  obtain ⟨c, hd, tl, r, n, st, v, rfl, hv⟩ : ∃ c hd tl r n st v, z = [.int .i64 c, .int .i64 hd, .int .i64 tl, .int .i64 r, .int .i64 n, .int .i64 st, .int .u64 v] ∧ (0 ≤ v ∧ v < 18446744073709551616) := by
    obtain ⟨hl, hf⟩ := hz
    obtain ⟨v0, e0, n0, rfl, _⟩ := hf 0 _ rfl
    obtain ⟨v1, e1, n1, rfl, _⟩ := hf 1 _ rfl
    obtain ⟨v2, e2, n2, rfl, _⟩ := hf 2 _ rfl
    obtain ⟨v3, e3, n3, rfl, _⟩ := hf 3 _ rfl
    obtain ⟨v4, e4, n4, rfl, _⟩ := hf 4 _ rfl
    obtain ⟨v5, e5, n5, rfl, _⟩ := hf 5 _ rfl
    obtain ⟨v6, e6, n6, rfl, w6⟩ := hf 6 _ rfl
    refine ⟨n0, n1, n2, n3, n4, n5, n6, ?_, wf_u64 w6⟩
    match z, hl with
    | [a, b, c, d, e, f, g], _ => simp at e0 e1 e2 e3 e4 e5 e6; simp [e0, e1, e2, e3, e4, e5, e6]
  have Hv := hid hv
  clear hz hv
  have hbel0 : ∀ o, Below w.heap.size w (w.alloc o) := fun o => ((Ch.refl (fun _ => False) w).alloc _).below (Nat.le_refl _) (fun _ h => h.elim)
  by_cases h1 : c < 1
  · have d1 : decide (c < 1) = true := decide_eq_true h1
    go_enter Try.func3, Try.ntmps3
    go_wp2_with fail
    go_ret
    exact ⟨rfl, hbel0 _⟩
  have d1 : decide (c < 1) = false := decide_eq_false h1
  by_cases h2 : 100 < c
  · have d2 : decide (100 < c) = true := decide_eq_true h2
    go_enter Try.func3, Try.ntmps3
    go_wp2_with fail
    go_ret
    exact ⟨rfl, hbel0 _⟩
  have d2 : decide (100 < c) = false := decide_eq_false h2
  obtain ⟨k, hk⟩ := Int.eq_ofNat_of_zero_le (show 0 ≤ c by omega)
  have hk1 : 1 ≤ k ∧ k ≤ 100 := by omega
  have Hk := hid hk
  clear hk
  obtain ⟨S, hS⟩ : ∃ S : Nat → Prop, ∀ k, S k ↔ k = w.heap.size := ⟨_, fun _ => Iff.rfl⟩
  have hSp : Mix.Has S w.heap.size := (hS _).2 rfl
  have HS := hid hS
  clear hS
  go_enter Try.func3, Try.ntmps3
  go_wp2_with fail
  rw [show (.int .i64 c : Value) = .int .i64 (k : Int) by rw [Hk.out]]
  refine calls_world fun w1 hw1 => ?_
  have hx1 : Blk w1 w.heap.size 24 #[.int .i64 c, .int .i64 hd, .int .i64 tl, .int .i64 r, .int .i64 n, .int .i64 st, .int .u64 v] := by rw [hw1]; rw [show c = (k : Int) from Hk.out]; exact Blk.new w _ _
  have hb1 : Below w.heap.size w w1 := by rw [hw1]; exact hbel0 _
  clear hw1
  refine (new_ok w.heap.size k hk1.1 (by omega) w1 hb1.size).mono ?_
  rintro e w2 ⟨p, cb, rfl, hbank, hc2, hp2, hcb2⟩
  have hb2 := hb1.trans (hc2.below hb1.size (fun _ h => h.elim))
  have hx2 := hc2.blk hx1 id
  clear hx1 hc2
  have g0 : w2.cell? ⟨w.heap.size, 0, none⟩ = some (.int .i64 c) := hx2.cell 0
  have g1 : w2.cell? ⟨w.heap.size, 1, none⟩ = some (.int .i64 hd) := hx2.cell 1
  have g2 : w2.cell? ⟨w.heap.size, 2, none⟩ = some (.int .i64 tl) := hx2.cell 2
  have g3 : w2.cell? ⟨w.heap.size, 3, none⟩ = some (.int .i64 r) := hx2.cell 3
  have g4 : w2.cell? ⟨w.heap.size, 4, none⟩ = some (.int .i64 n) := hx2.cell 4
  have g5 : w2.cell? ⟨w.heap.size, 5, none⟩ = some (.int .i64 st) := hx2.cell 5
  have g6 : w2.cell? ⟨w.heap.size, 6, none⟩ = some (.int .u64 v) := hx2.cell 6
  have Hbk := hid hbank
  have Hx2 := hid hx2
  clear hbank hx2
  go_wp2_with fail
  rw [show (.int .i64 c : Value) = .int .i64 (k : Int) by rw [Hk.out]]
  refine (rnew_ok w.heap.size k hk1.1 (by omega) w2 hb2.size).mono ?_
  rintro e w3 ⟨q, vb, rfl, hrb, hc3, hp3, hcb3⟩
  have hb3 := hb2.trans (hc3.below hb2.size (fun _ h => h.elim))
  have hx3 := hc3.blk Hx2.out id
  have T3 : Two w.heap.size w3 p cb (.slice none 0 0) ⟨List.replicate k 0, []⟩ q vb (.slice none 0 0) ⟨List.replicate k 0, []⟩ := ⟨Hbk.out.ch hc3 id id (fun _ _ => id), hrb, fun k hk => by simp [Value.ownBlock] at hk⟩
  clear g0 g1 g2 g3 g4 g5 g6
  have g0 : w3.cell? ⟨w.heap.size, 0, none⟩ = some (.int .i64 c) := hx3.cell 0
  have g1 : w3.cell? ⟨w.heap.size, 1, none⟩ = some (.int .i64 hd) := hx3.cell 1
  have g2 : w3.cell? ⟨w.heap.size, 2, none⟩ = some (.int .i64 tl) := hx3.cell 2
  have g3 : w3.cell? ⟨w.heap.size, 3, none⟩ = some (.int .i64 r) := hx3.cell 3
  have g4 : w3.cell? ⟨w.heap.size, 4, none⟩ = some (.int .i64 n) := hx3.cell 4
  have g5 : w3.cell? ⟨w.heap.size, 5, none⟩ = some (.int .i64 st) := hx3.cell 5
  have g6 : w3.cell? ⟨w.heap.size, 6, none⟩ = some (.int .u64 v) := hx3.cell 6
  have HT3 := hid T3
  have Hx3 := hid hx3
  clear T3 hx3 hrb hc3
  go_wp2_with fail
  refine Mix.wp_region_mix S (fun i => ([0, 0, 0, 0, 0, 3, 1, 1, 4, 1, 4, 2, 0] : List Nat).getD i 0) [0, 1, 2, 3, 4, 6, 7, 8, 9, 10, 5, 11, 12] (by kernel_rfl) (by kernel_rfl) ?_
  repeat (first | (refine Mix.mix_q (by simp only [List.getElem?_toArray, List.getElem?_cons_zero, List.getElem?_cons_succ]; exact rfl) rfl ?_; go_big_quiet_step (fail); refine wpQuiet_nil ?_) | (refine Mix.mix_p (by simp only [List.getElem?_toArray, List.getElem?_cons_zero, List.getElem?_cons_succ]; exact rfl) rfl rfl ?_; go_big_quiet_step (fail); refine wpQuiet_nil ?_) | (refine Mix.mix_s (by simp only [List.getElem?_toArray, List.getElem?_cons_zero, List.getElem?_cons_succ]; exact rfl) rfl rfl ?_; go_big_quiet_step (fail); refine wpQuiet_nil ?_))
  refine Mix.mix_a (by simp only [List.getElem?_toArray, List.getElem?_cons_zero, List.getElem?_cons_succ]; exact rfl) rfl fun W1 hW1 => ?_
  obtain ⟨n1, rfl⟩ := hW1
  have T3d := hid (HT3.out.ch ((Ch.refl (fun _ => False) w3).drewN n1))
  have hx3d := Hx3.out.drewN n1
  go_wp2_with fail
  refine (store_any w.heap.size p cb (.slice none 0 0) ⟨List.replicate k 0, []⟩ 0 st _ T3d.out.b (by show 0 < 1000000; decide) hb3.size v Hv.out).mono ?_
  rintro e w4 ⟨rfl, hs4⟩
  obtain ⟨lv4, T4, c4⟩ := T3d.out.stepB hs4
  have hx4 := c4.blk hx3d (T3d.out.b.out hx3d (by decide) (by decide) (by decide))
  have hb4 : Below w.heap.size w w4 := (hb3.trans (((Ch.refl (fun _ => False) w3).drewN n1).below hb3.size (fun _ h => h.elim))).trans (BStep.below hs4 T3d.out.b hb3.size)
  have hkeep : Mix.Keep S w3 w4 := fun j hj => by rw [(HS.out j).1 hj]; exact hx4.trans Hx3.out.symm
  clear g0 g1 g2 g3 g4 g5 g6
  have g0 : w4.cell? ⟨w.heap.size, 0, none⟩ = some (.int .i64 c) := hx4.cell 0
  have g1 : w4.cell? ⟨w.heap.size, 1, none⟩ = some (.int .i64 hd) := hx4.cell 1
  have g2 : w4.cell? ⟨w.heap.size, 2, none⟩ = some (.int .i64 tl) := hx4.cell 2
  have g3 : w4.cell? ⟨w.heap.size, 3, none⟩ = some (.int .i64 r) := hx4.cell 3
  have g4 : w4.cell? ⟨w.heap.size, 4, none⟩ = some (.int .i64 n) := hx4.cell 4
  have g5 : w4.cell? ⟨w.heap.size, 5, none⟩ = some (.int .i64 st) := hx4.cell 5
  have g6 : w4.cell? ⟨w.heap.size, 6, none⟩ = some (.int .u64 v) := hx4.cell 6
  have HT4 := hid T4
  have Hx4 := hid hx4
  obtain ⟨E, hE⟩ : ∃ E, E = BS.err ⟨List.replicate k 0, []⟩ 0 st := ⟨_, rfl⟩
  rw [← hE]
  have HE := hid hE
  clear hE T4 hx4 c4 hs4 hx3d
  go_wp2_with fail
  refine ⟨hkeep, ?_⟩
  clear hkeep
  repeat (first | (refine Mix.mix_q (by simp only [List.getElem?_toArray, List.getElem?_cons_zero, List.getElem?_cons_succ]; exact rfl) rfl ?_; go_big_quiet_step (fail); refine wpQuiet_nil ?_) | (refine Mix.mix_p (by simp only [List.getElem?_toArray, List.getElem?_cons_zero, List.getElem?_cons_succ]; exact rfl) rfl rfl ?_; go_big_quiet_step (fail); refine wpQuiet_nil ?_) | (refine Mix.mix_s (by simp only [List.getElem?_toArray, List.getElem?_cons_zero, List.getElem?_cons_succ]; exact rfl) rfl rfl ?_; go_big_quiet_step (fail); refine wpQuiet_nil ?_))
  refine Mix.mix_e (by simp only [List.getElem?_toArray, List.getElem?_cons_zero, List.getElem?_cons_succ]; exact rfl) rfl fun W2 hW2 => ?_
  obtain ⟨n2, rfl⟩ := hW2
  have T4d := hid (HT4.out.ch ((Ch.refl (fun _ => False) w4).drewN n2))
  have hx4d := Hx4.out.drewN n2
  go_wp2_with fail
  refine (rstore_any w.heap.size q vb (.slice none 0 0) ⟨List.replicate k 0, []⟩ 0 st _ T4d.out.r (by show 0 < 1000000; decide) hb4.size v).mono ?_
  rintro e w5 ⟨rfl, hs5⟩
  obtain ⟨mv5, T5, c5⟩ := T4d.out.stepR hs5
  have hx5 := c5.blk hx4d (T4d.out.r.out hx4d (by decide) (by decide) (by decide))
  have hb5 : Below w.heap.size w w5 := (hb4.trans (((Ch.refl (fun _ => False) w4).drewN n2).below hb4.size (fun _ h => h.elim))).trans (RStep.below hs5 T4d.out.r hb4.size)
  rw [← HE.out]
  have hne : (E != E) = false := by simp
  clear g0 g1 g2 g3 g4 g5 g6
  have g0 : w5.cell? ⟨w.heap.size, 0, none⟩ = some (.int .i64 c) := hx5.cell 0
  have g1 : w5.cell? ⟨w.heap.size, 1, none⟩ = some (.int .i64 hd) := hx5.cell 1
  have g2 : w5.cell? ⟨w.heap.size, 2, none⟩ = some (.int .i64 tl) := hx5.cell 2
  have g3 : w5.cell? ⟨w.heap.size, 3, none⟩ = some (.int .i64 r) := hx5.cell 3
  have g4 : w5.cell? ⟨w.heap.size, 4, none⟩ = some (.int .i64 n) := hx5.cell 4
  have g5 : w5.cell? ⟨w.heap.size, 5, none⟩ = some (.int .i64 st) := hx5.cell 5
  have g6 : w5.cell? ⟨w.heap.size, 6, none⟩ = some (.int .u64 v) := hx5.cell 6
  have HT5 := hid T5
  have Hx5 := hid hx5
  clear T5 hx5 c5 hs5 hx4d
  go_wp2_with fail
  repeat (refine Mix.mix_q (by simp only [List.getElem?_toArray, List.getElem?_cons_zero, List.getElem?_cons_succ]; exact rfl) rfl ?_; go_big_quiet_step (fail); refine wpQuiet_nil ?_)
  intro n3
  go_wp2_with fail
  refine calls_world fun w6 hw6 => ?_
  have T6 := HT5.out.ch ((Ch.refl (fun _ => False) w5).drewN n3)
  rw [← hw6] at T6
  have hx6 := Hx5.out.drewN n3
  rw [← hw6] at hx6
  have hb6 : Below w.heap.size w w6 := by rw [hw6]; exact hb5.trans (((Ch.refl (fun _ => False) w5).drewN n3).below hb5.size (fun _ h => h.elim))
  clear hw6
  clear g0 g1 g2 g3 g4 g5 g6
  have g0 : w6.cell? ⟨w.heap.size, 0, none⟩ = some (.int .i64 c) := hx6.cell 0
  have g1 : w6.cell? ⟨w.heap.size, 1, none⟩ = some (.int .i64 hd) := hx6.cell 1
  have g2 : w6.cell? ⟨w.heap.size, 2, none⟩ = some (.int .i64 tl) := hx6.cell 2
  have g3 : w6.cell? ⟨w.heap.size, 3, none⟩ = some (.int .i64 r) := hx6.cell 3
  have g4 : w6.cell? ⟨w.heap.size, 4, none⟩ = some (.int .i64 n) := hx6.cell 4
  have g5 : w6.cell? ⟨w.heap.size, 5, none⟩ = some (.int .i64 st) := hx6.cell 5
  have g6 : w6.cell? ⟨w.heap.size, 6, none⟩ = some (.int .u64 v) := hx6.cell 6
  obtain ⟨s, hs⟩ : ∃ s, s = BS.doStore ⟨List.replicate k 0, []⟩ 0 st v := ⟨_, rfl⟩
  rw [← hs] at T6
  have HT6 := hid T6
  clear T6
  have hsv : s.vs.length ≤ 4096 := by
    rw [hs]; unfold BS.doStore
    split
    · show ((List.replicate k 0).set _ _).length ≤ 4096
      rw [List.length_set, List.length_replicate]; omega
    · show (List.replicate k 0).length ≤ 4096
      rw [List.length_replicate]; omega
  clear hs
  refine (len_any w.heap.size p cb lv4 s w6 HT6.out.b).mono ?_
  rintro e w6' ⟨rfl, rfl⟩
  go_wp2_with fail
  refine (qnew_any w.heap.size p cb lv4 s hd tl r n w6 HT6.out.b hsv).mono ?_
  rintro e w7 ⟨hc7, hr7⟩
  have hb7 := hb6.trans (hc7.below hb6.size (fun _ h => h.elim))
  have HT7 := hid (HT6.out.ch hc7)
  have hx7 := hc7.blk hx6 id
  clear g0 g1 g2 g3 g4 g5 g6
  have g0 : w7.cell? ⟨w.heap.size, 0, none⟩ = some (.int .i64 c) := hx7.cell 0
  have g1 : w7.cell? ⟨w.heap.size, 1, none⟩ = some (.int .i64 hd) := hx7.cell 1
  have g2 : w7.cell? ⟨w.heap.size, 2, none⟩ = some (.int .i64 tl) := hx7.cell 2
  have g3 : w7.cell? ⟨w.heap.size, 3, none⟩ = some (.int .i64 r) := hx7.cell 3
  have g4 : w7.cell? ⟨w.heap.size, 4, none⟩ = some (.int .i64 n) := hx7.cell 4
  have g5 : w7.cell? ⟨w.heap.size, 5, none⟩ = some (.int .i64 st) := hx7.cell 5
  have g6 : w7.cell? ⟨w.heap.size, 6, none⟩ = some (.int .u64 v) := hx7.cell 6
  have Hx7 := hid hx7
  clear hx6 hx7 hc7
  obtain ⟨K, hK⟩ : ∃ K, K = qerr s.vs hd tl r n := ⟨_, rfl⟩
  rw [← hK] at hr7
  have hnn : (((s.lg.length : Nat) : Int) != ((s.lg.length : Nat) : Int)) = false := by simp
  rcases hr7 with ⟨hK0, rfl⟩ | ⟨hK0, qb, hqb, rfl, hqd⟩
  · have HK := hid hK
    have hKK : (K != K) = false := by simp
    clear hK
    have HK0 := hid hK0
    clear hK0
    go_wp2_with fail
    refine (rqnew_any w.heap.size q vb mv5 s hd tl r n w7 HT7.out.r hsv).mono ?_
    rintro e w8 ⟨hc8, hr8⟩
    rw [← HK.out] at hr8
    have hb8 := hb7.trans (hc8.below hb7.size (fun _ h => h.elim))
    have HT8 := hid (HT7.out.ch hc8)
    rcases hr8 with ⟨_, rfl⟩ | ⟨hK0, _⟩
    · clear hc8
      go_wp2_with fail
      refine (len_any w.heap.size p cb lv4 s w8 HT8.out.b).mono ?_
      rintro e w8' ⟨rfl, rfl⟩
      go_wp2_with fail
      go_ret
      exact ⟨rfl, hb8⟩
    · exact absurd hK0 HK0.out
  · obtain ⟨a, b, ha, hb, m1, m2⟩ := qerr_zero (hK.symm.trans hK0)
    subst ha hb
    have HK := hid (hK.symm.trans hK0)
    have Hqd := hid hqd
    have M1 := hid m1
    have M2 := hid m2
    clear hqd hK hK0 m1 m2
    go_wp2_with fail
    refine (rqnew_any w.heap.size q vb mv5 s a b r n w7 HT7.out.r hsv).mono ?_
    rintro e w8 ⟨hc8, hr8⟩
    rw [HK.out] at hr8
    have hb8 := hb7.trans (hc8.below hb7.size (fun _ h => h.elim))
    have HT8 := hid (HT7.out.ch hc8)
    have Hq8 := hid (hc8.blk Hqd.out id)
    rcases hr8 with ⟨hn0, _⟩ | ⟨_, yb, _, rfl, _⟩
    · exact absurd rfl hn0
    · clear hc8
      go_wp2_with fail
      refine (len_any w.heap.size p cb lv4 s w8 HT8.out.b).mono ?_
      rintro e w8' ⟨rfl, rfl⟩
      go_wp2_with fail
      refine (qlen0 w.heap.size p cb qb lv4 s a b r n w8 HT8.out.b Hq8.out M1.out M2.out).mono ?_
      rintro e w9 ⟨rfl, n9, rfl⟩
      have c9 : Ch (fun _ => False) w8 (w8.drewN n9) := (Ch.refl _ w8).drewN n9
      have HT9 := hid (HT8.out.ch c9)
      have Hq9 := hid (c9.blk Hq8.out id)
      have hb9 := hb8.trans (c9.below hb8.size (fun _ h => h.elim))
      clear c9
      go_wp2_with fail
      refine (qlist0 w.heap.size p cb qb lv4 s a b r n _ HT9.out.b Hq9.out M1.out M2.out).mono ?_
      rintro e w10 ⟨rfl, n10, rfl⟩
      go_wp2_with fail
      go_ret
      exact ⟨rfl, hb8.trans (((Ch.refl (fun _ => False) w8).drewN (n9 + n10)).below hb8.size (fun _ h => h.elim))⟩
end Go.Proofs.Ytpkjjlahmjijnaa
