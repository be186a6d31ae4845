/- both: a call on the bank and on the reference's bank. -/
import Derived.Test.YtnoaeeiekblpbaaBothA
namespace Go.Proofs.Ytnoaeeiekblpbaa
open Go.RowKit
set_option linter.unusedVariables false

set_option maxRecDepth 100000 in
set_option maxHeartbeats 4000000 in
theorem both_any (B p cb : Nat) (lv : Value) (s : BS) (q vb : Nat) (mv : Value) (x : StepD) (hx : x.ok) (w : World) (h : Two B w p cb lv s q vb mv s) (hlen : s.lg.length < 1000000) (hB : B ≤ w.heap.size) :
    Calls Try.prog 25 #[.pointer (some ⟨p, 0, none⟩), .pointer (some ⟨q, 0, none⟩), .agg #[.int .u8 x.d, .int .i64 x.t, .int .i64 x.c, .int .u64 x.o, .int .u64 x.v]] w fun e w' => BothAns B w w' p cb q vb (s.step x) e := by
  have hv := hx.2.2.1
  have Hv := hid hv
  clear hv
  go_enter Try.func25, Try.ntmps25
  by_cases h0 : x.d = 0
  · have h0' : (x.d == 0) = true := by simpa using h0
    have E := hid h0
    clear h0
    go_wp2_with fail
    refine calls_world fun W hW => ?_
    have cW : Ch (fun _ => False) w W := by rw [hW]; repeat (first | exact Ch.refl _ _ | refine Ch.drewN ?_ _ | refine Ch.alloc ?_ _)
    have bW : Blk W w.heap.size 56 #[.int .u8 x.d, .int .i64 x.t, .int .i64 x.c, .int .u64 x.o, .int .u64 x.v] := by rw [hW]; first | exact Blk.new _ _ _ | exact (Blk.new _ _ _).drewN _ | exact Blk.push rfl
    clear hW
    have h1 := h.ch cW
    have hB1 := Nat.le_trans hB cW.size
    have f1 := bW.cell 1
    have f2 := bW.cell 2
    have f3 := bW.cell 3
    have f4 := bW.cell 4
    simp only [List.getElem?_toArray, List.getElem?_cons_zero, List.getElem?_cons_succ] at f1 f2 f3 f4
    refine (load_any B p cb lv s x.t x.c W h1.b hlen hB1 ).mono ?_
    rintro e w2 ⟨rfl, hs⟩
    have hbl2 := hs.below h1.b hB1
    obtain ⟨lv2, h2, c2⟩ := h1.stepB hs
    have b2 := c2.blk bW (h1.b.out bW (by decide) (by decide) (by decide))
    have g1 := b2.cell 1
    have g2 := b2.cell 2
    have g3 := b2.cell 3
    have g4 := b2.cell 4
    simp only [List.getElem?_toArray, List.getElem?_cons_zero, List.getElem?_cons_succ] at g1 g2 g3 g4
    have hB2 := Nat.le_trans hB1 hbl2.size
    have H2 := hid h2
    clear hs bW b2
    go_wp2_with fail
    refine (rload_any B q vb mv s x.t x.c w2 H2.out.r hlen hB2 ).mono ?_
    rintro e w3 ⟨rfl, hs⟩
    have hbl3 := hs.below H2.out.r hB2
    obtain ⟨mv3, h3, c3⟩ := H2.out.stepR hs
    have H3 := hid h3
    clear hs h3
    go_wp2_with fail
    go_ret
    refine ⟨rfl, ⟨lv2, mv3, ?_⟩, ((cW.below hB (fun _ h => h.elim)).trans hbl2).trans hbl3⟩
    rw [show s.step x = s.doLoad x.t x.c from by simp [BS.step, E.out]]
    exact H3.out
  · have h0' : (x.d == 0) = false := by simpa using h0
    by_cases h1 : x.d = 1
    · have h1' : (x.d == 1) = true := by simpa using h1
      have E := hid h1
      clear h0 h1
      obtain ⟨S, hS⟩ : ∃ S : Nat → Prop, ∀ k, S k ↔ k = w.heap.size := ⟨_, fun _ => Iff.rfl⟩
      have hSp : Mix.Has S w.heap.size := (hS _).2 rfl
      have HS := hid hS
      clear hS
      go_wp2_with fail
      refine Mix.wp_region_mix S (fun i => ([0, 0, 0, 0, 0, 0, 0, 3, 1, 1, 4, 1, 4, 1, 4, 2, 0, 0] : List Nat).getD i 0) [0, 1, 2, 3, 4, 5, 6, 8, 9, 10, 11, 12, 13, 14, 7, 15, 16, 17] (by kernel_rfl) (by kernel_rfl) ?_
      repeat (first | (refine Mix.mix_q (by simp only [List.getElem?_toArray, List.getElem?_cons_zero, List.getElem?_cons_succ]; exact rfl) rfl ?_; go_big_quiet_step (fail); refine wpQuiet_nil ?_) | (refine Mix.mix_p (by simp only [List.getElem?_toArray, List.getElem?_cons_zero, List.getElem?_cons_succ]; exact rfl) rfl rfl ?_; go_big_quiet_step (fail); refine wpQuiet_nil ?_) | (refine Mix.mix_s (by simp only [List.getElem?_toArray, List.getElem?_cons_zero, List.getElem?_cons_succ]; exact rfl) rfl rfl ?_; go_big_quiet_step (fail); refine wpQuiet_nil ?_))
      refine Mix.mix_a (by simp only [List.getElem?_toArray, List.getElem?_cons_zero, List.getElem?_cons_succ]; exact rfl) rfl fun W hW => ?_
      obtain ⟨n1, rfl⟩ := hW
      go_wp2_with fail
      refine calls_world fun W hW => ?_
      have cW : Ch (fun _ => False) w W := by rw [hW]; repeat (first | exact Ch.refl _ _ | refine Ch.drewN ?_ _ | refine Ch.alloc ?_ _)
      have bW : Blk W w.heap.size 56 #[.int .u8 x.d, .int .i64 x.t, .int .i64 x.c, .int .u64 x.o, .int .u64 x.v] := by rw [hW]; first | exact Blk.new _ _ _ | exact (Blk.new _ _ _).drewN _ | exact Blk.push rfl
      clear hW
      have h1 := h.ch cW
      have hB1 := Nat.le_trans hB cW.size
      refine (store_any B p cb lv s x.t x.c W h1.b hlen hB1 x.v Hv.out).mono ?_
      rintro e w2 ⟨rfl, hs⟩
      have hbl2 := hs.below h1.b hB1
      obtain ⟨lv2, h2, c2⟩ := h1.stepB hs
      have b2 := c2.blk bW (h1.b.out bW (by decide) (by decide) (by decide))
      have hB2 := Nat.le_trans hB1 hbl2.size
      have H2 := hid h2
      clear hs
      go_wp2_with fail
      refine ⟨fun k hk => by rw [(HS.out k).1 hk]; refine Eq.trans b2 (Eq.symm ?_); first | exact Blk.new _ _ _ | exact (Blk.new _ _ _).drewN _, ?_⟩
      refine Mix.mix_e (by simp only [List.getElem?_toArray, List.getElem?_cons_zero, List.getElem?_cons_succ]; exact rfl) rfl fun W3 hW3 => ?_
      obtain ⟨n2, rfl⟩ := hW3
      go_wp2_with fail
      refine calls_world fun W3 hW3 => ?_
      have c23 : Ch (fun _ => False) w2 W3 := by rw [hW3]; exact (Ch.refl _ _).drewN _
      clear hW3
      have h23 := H2.out.ch c23
      have hB3 := Nat.le_trans hB2 c23.size
      refine (rstore_any B q vb mv s x.t x.c W3 h23.r hlen hB3 x.v).mono ?_
      rintro e w3 ⟨rfl, hs⟩
      have hbl3 := hs.below h23.r hB3
      obtain ⟨mv3, h3, c3⟩ := h23.stepR hs
      have H3 := hid h3
      clear hs h3
      go_wp2_with fail
      repeat (refine Mix.mix_q (by simp only [List.getElem?_toArray, List.getElem?_cons_zero, List.getElem?_cons_succ]; exact rfl) rfl ?_; go_big_quiet_step (fail); refine wpQuiet_nil ?_)
      intro n3
      go_wp2_with fail
      go_ret
      refine ⟨by simp, ⟨lv2, mv3, ?_⟩, ?_⟩
      · rw [show s.step x = s.doStore x.t x.c x.v from by simp [BS.step, E.out]]
        exact H3.out.ch ((Ch.refl _ _).drewN _)
      · have q1 := ((cW.below hB (fun _ h => h.elim)).trans hbl2).trans (c23.below hB2 (fun _ h => h.elim))
        have q2 := q1.trans hbl3
        exact q2.trans (((Ch.refl (fun _ => False) _).drewN _).below (Nat.le_trans hB q2.size) (fun _ h => h.elim))
    · have h1' : (x.d == 1) = false := by simpa using h1
      by_cases h2 : x.d = 2
      · have h2' : (x.d == 2) = true := by simpa using h2
        have E := hid h2
        clear h0 h1 h2
        go_wp2_with fail
        refine calls_world fun W hW => ?_
        have cW : Ch (fun _ => False) w W := by rw [hW]; repeat (first | exact Ch.refl _ _ | refine Ch.drewN ?_ _ | refine Ch.alloc ?_ _)
        have bW : Blk W w.heap.size 56 #[.int .u8 x.d, .int .i64 x.t, .int .i64 x.c, .int .u64 x.o, .int .u64 x.v] := by rw [hW]; first | exact Blk.new _ _ _ | exact (Blk.new _ _ _).drewN _ | exact Blk.push rfl
        clear hW
        have h1 := h.ch cW
        have hB1 := Nat.le_trans hB cW.size
        have f1 := bW.cell 1
        have f2 := bW.cell 2
        have f3 := bW.cell 3
        have f4 := bW.cell 4
        simp only [List.getElem?_toArray, List.getElem?_cons_zero, List.getElem?_cons_succ] at f1 f2 f3 f4
        refine (add_any B p cb lv s x.t x.c W h1.b hlen hB1 x.v).mono ?_
        rintro e w2 ⟨rfl, hs⟩
        have hbl2 := hs.below h1.b hB1
        obtain ⟨lv2, h2, c2⟩ := h1.stepB hs
        have b2 := c2.blk bW (h1.b.out bW (by decide) (by decide) (by decide))
        have g1 := b2.cell 1
        have g2 := b2.cell 2
        have g3 := b2.cell 3
        have g4 := b2.cell 4
        simp only [List.getElem?_toArray, List.getElem?_cons_zero, List.getElem?_cons_succ] at g1 g2 g3 g4
        have hB2 := Nat.le_trans hB1 hbl2.size
        have H2 := hid h2
        clear hs bW b2
        go_wp2_with fail
        refine (radd_any B q vb mv s x.t x.c w2 H2.out.r hlen hB2 x.v).mono ?_
        rintro e w3 ⟨rfl, hs⟩
        have hbl3 := hs.below H2.out.r hB2
        obtain ⟨mv3, h3, c3⟩ := H2.out.stepR hs
        have H3 := hid h3
        clear hs h3
        go_wp2_with fail
        go_ret
        refine ⟨rfl, ⟨lv2, mv3, ?_⟩, ((cW.below hB (fun _ h => h.elim)).trans hbl2).trans hbl3⟩
        rw [show s.step x = s.doAdd x.t x.c x.v from by simp [BS.step, E.out]]
        exact H3.out
      · have h2' : (x.d == 2) = false := by simpa using h2
        by_cases h3 : x.d = 3
        · have h3' : (x.d == 3) = true := by simpa using h3
          have E := hid h3
          clear h0 h1 h2 h3
          go_wp2_with fail
          refine calls_world fun W hW => ?_
          have cW : Ch (fun _ => False) w W := by rw [hW]; repeat (first | exact Ch.refl _ _ | refine Ch.drewN ?_ _ | refine Ch.alloc ?_ _)
          have bW : Blk W w.heap.size 56 #[.int .u8 x.d, .int .i64 x.t, .int .i64 x.c, .int .u64 x.o, .int .u64 x.v] := by rw [hW]; first | exact Blk.new _ _ _ | exact (Blk.new _ _ _).drewN _ | exact Blk.push rfl
          clear hW
          have h1 := h.ch cW
          have hB1 := Nat.le_trans hB cW.size
          have f1 := bW.cell 1
          have f2 := bW.cell 2
          have f3 := bW.cell 3
          have f4 := bW.cell 4
          simp only [List.getElem?_toArray, List.getElem?_cons_zero, List.getElem?_cons_succ] at f1 f2 f3 f4
          refine (swap_any B p cb lv s x.t x.c W h1.b hlen hB1 x.v Hv.out).mono ?_
          rintro e w2 ⟨rfl, hs⟩
          have hbl2 := hs.below h1.b hB1
          obtain ⟨lv2, h2, c2⟩ := h1.stepB hs
          have b2 := c2.blk bW (h1.b.out bW (by decide) (by decide) (by decide))
          have g1 := b2.cell 1
          have g2 := b2.cell 2
          have g3 := b2.cell 3
          have g4 := b2.cell 4
          simp only [List.getElem?_toArray, List.getElem?_cons_zero, List.getElem?_cons_succ] at g1 g2 g3 g4
          have hB2 := Nat.le_trans hB1 hbl2.size
          have H2 := hid h2
          clear hs bW b2
          go_wp2_with fail
          refine (rswap_any B q vb mv s x.t x.c w2 H2.out.r hlen hB2 x.v).mono ?_
          rintro e w3 ⟨rfl, hs⟩
          have hbl3 := hs.below H2.out.r hB2
          obtain ⟨mv3, h3, c3⟩ := H2.out.stepR hs
          have H3 := hid h3
          clear hs h3
          go_wp2_with fail
          go_ret
          refine ⟨rfl, ⟨lv2, mv3, ?_⟩, ((cW.below hB (fun _ h => h.elim)).trans hbl2).trans hbl3⟩
          rw [show s.step x = s.doSwap x.t x.c x.v from by simp [BS.step, E.out]]
          exact H3.out
        · have h3' : (x.d == 3) = false := by simpa using h3
          have E := hid (And.intro h0 (And.intro h1 (And.intro h2 h3)))
          clear h0 h1 h2 h3
          go_wp2_with fail
          refine calls_world fun W hW => ?_
          have cW : Ch (fun _ => False) w W := by rw [hW]; repeat (first | exact Ch.refl _ _ | refine Ch.drewN ?_ _ | refine Ch.alloc ?_ _)
          have bW : Blk W w.heap.size 56 #[.int .u8 x.d, .int .i64 x.t, .int .i64 x.c, .int .u64 x.o, .int .u64 x.v] := by rw [hW]; first | exact Blk.new _ _ _ | exact (Blk.new _ _ _).drewN _ | exact Blk.push rfl
          clear hW
          have h1 := h.ch cW
          have hB1 := Nat.le_trans hB cW.size
          have f1 := bW.cell 1
          have f2 := bW.cell 2
          have f3 := bW.cell 3
          have f4 := bW.cell 4
          simp only [List.getElem?_toArray, List.getElem?_cons_zero, List.getElem?_cons_succ] at f1 f2 f3 f4
          refine (cas_any B p cb lv s x.t x.c W h1.b hlen hB1 x.o x.v Hv.out).mono ?_
          rintro e w2 ⟨rfl, hs⟩
          have hbl2 := hs.below h1.b hB1
          obtain ⟨lv2, h2, c2⟩ := h1.stepB hs
          have b2 := c2.blk bW (h1.b.out bW (by decide) (by decide) (by decide))
          have g1 := b2.cell 1
          have g2 := b2.cell 2
          have g3 := b2.cell 3
          have g4 := b2.cell 4
          simp only [List.getElem?_toArray, List.getElem?_cons_zero, List.getElem?_cons_succ] at g1 g2 g3 g4
          have hB2 := Nat.le_trans hB1 hbl2.size
          have H2 := hid h2
          clear hs bW b2
          go_wp2_with fail
          refine (rcas_any B q vb mv s x.t x.c w2 H2.out.r hlen hB2 x.o x.v).mono ?_
          rintro e w3 ⟨rfl, hs⟩
          have hbl3 := hs.below H2.out.r hB2
          obtain ⟨mv3, h3, c3⟩ := H2.out.stepR hs
          have H3 := hid h3
          clear hs h3
          go_wp2_with fail
          go_ret
          refine ⟨rfl, ⟨lv2, mv3, ?_⟩, ((cW.below hB (fun _ h => h.elim)).trans hbl2).trans hbl3⟩
          rw [show s.step x = s.doCas x.t x.c x.o x.v from by simp [BS.step, E.out.1, E.out.2.1, E.out.2.2.1, E.out.2.2.2]]
          exact H3.out
end Go.Proofs.Ytnoaeeiekblpbaa
