/- StoreExamples. -/
import Derived.Test.YtefpabicgefciaaGreatDbP
namespace Go.Proofs.YtefpabicgefciaaGreat
open Go.RowKit
set_option linter.unusedVariables false
set_option linter.unusedSimpArgs false
set_option linter.unusedSectionVars false


/-! A nil store. -/
set_option maxRecDepth 100000 in
theorem nil_publish (n a h b r l : Int) (mv dv : Value) (w : World) : Calls Tryz.prog 47 #[.pointer none, .agg #[.int .i64 n, .int .u64 a, .int .i64 h, .int .i64 b, .int .i64 r, .int .i64 l, mv, dv]] w fun e w' => e = .returned (.tuple #[.int .i64 0, .int .i64 1]) ∧ Ch (fun _ => False) w w' := by
  go_enter Tryz.func47, Tryz.ntmps47
  go_wp2_with fail
  go_ret2
  exact ⟨rfl, (Ch.refl _ w).alloc _⟩
set_option maxRecDepth 100000 in
theorem nil_revision (p : Int) (w : World) : Calls Tryz.prog 29 #[.pointer none, .int .i64 p] w fun e w' => e = .returned (.tuple #[.agg #[.int .i64 0, .int .u64 0, .int .i64 0, .int .i64 0, .int .i64 0, .int .i64 0, .slice none 0 0, .slice none 0 0], .int .i64 1]) ∧ Ch (fun _ => False) w w' := by
  go_enter Tryz.func29, Tryz.ntmps29
  go_wp2_with fail
  refine bodyPost_ret (v := .tuple #[.agg #[.int .i64 0, .int .u64 0, .int .i64 0, .int .i64 0, .int .i64 0, .int .i64 0, .slice none 0 0, .slice none 0 0], .int .i64 1]) ?_ rfl ⟨rfl, below_ch ?_⟩
  · simp [results, Tryz.results29, go_sem]
  · repeat (refine Below.setCell ?_ (by simp) _)
    exact (Below.refl _ _).alloc (Nat.le_refl _) _
set_option maxRecDepth 100000 in
theorem nil_delta (p q : Int) (w : World) : Calls Tryz.prog 43 #[.pointer none, .int .i64 p, .int .i64 q] w fun e w' => e = .returned (.tuple #[.slice none 0 0, .int .i64 1]) ∧ Ch (fun _ => False) w w' := by
  go_enter Tryz.func43, Tryz.ntmps43
  go_wp2_with fail
  go_ret2
  exact ⟨rfl, Ch.refl _ w⟩
set_option maxRecDepth 100000 in
theorem nil_check (p : Int) (w : World) : Calls Tryz.prog 89 #[.pointer none, .int .i64 p] w fun e w' => e = .returned (.int .i64 1) ∧ w = w' := by
  go_enter Tryz.func89, Tryz.ntmps89
  go_wp2_with fail
  go_ret
  exact ⟨rfl, rfl⟩
set_option maxRecDepth 100000 in
theorem nil_feed (p : Int) (w : World) : Calls Tryz.prog 35 #[.pointer none, .int .i64 p] w fun e w' => e = .returned (.tuple #[.pointer none, .int .i64 1]) ∧ Ch (fun _ => False) w w' := by
  go_enter Tryz.func35, Tryz.ntmps35
  go_wp2_with fail
  refine (nil_check p _).mono ?_
  rintro e w' ⟨rfl, rfl⟩
  go_wp2_with fail
  go_ret2
  exact ⟨rfl, Ch.refl _ w⟩
set_option maxRecDepth 100000 in
theorem nil_request (p : Int) (w : World) : Calls Tryz.prog 36 #[.pointer none, .int .i64 p] w fun e w' => e = .returned (.tuple #[.agg #[.int .u8 0, .int .i64 0, .int .i64 0, .int .i64 0, .int .u32 0, .int .u8 0, .string ⟨#[]⟩], .int .i64 1]) ∧ Ch (fun _ => False) w w' := by
  go_enter Tryz.func36, Tryz.ntmps36
  go_wp2_with fail
  refine (nil_check p _).mono ?_
  rintro e w' ⟨rfl, rfl⟩
  go_wp2_with fail
  refine bodyPost_ret (v := .tuple #[.agg #[.int .u8 0, .int .i64 0, .int .i64 0, .int .i64 0, .int .u32 0, .int .u8 0, .string ⟨#[]⟩], .int .i64 1]) ?_ rfl ⟨rfl, below_ch ?_⟩
  · simp [results, Tryz.results36, go_sem]
  · repeat (refine Below.setCell ?_ (by simp) _)
    exact (Below.refl _ _).alloc (Nat.le_refl _) _
set_option maxRecDepth 100000 in
theorem nil_reply (p : Int) (w : World) : Calls Tryz.prog 37 #[.pointer none, .int .i64 p] w fun e w' => e = .returned (.tuple #[.agg #[.int .i64 0, .int .i64 0, .int .i64 0, .int .i64 0, .int .u8 0, .string ⟨#[]⟩, .int .i64 0, .int .i64 0, .int .i64 0, .int .u8 0, .int .i64 0, .int .i64 0, .slice none 0 0], .int .i64 1]) ∧ Ch (fun _ => False) w w' := by
  go_enter Tryz.func37, Tryz.ntmps37
  go_wp2_with fail
  refine (nil_check p _).mono ?_
  rintro e w' ⟨rfl, rfl⟩
  go_wp2_with fail
  refine bodyPost_ret (v := .tuple #[.agg #[.int .i64 0, .int .i64 0, .int .i64 0, .int .i64 0, .int .u8 0, .string ⟨#[]⟩, .int .i64 0, .int .i64 0, .int .i64 0, .int .u8 0, .int .i64 0, .int .i64 0, .slice none 0 0], .int .i64 1]) ?_ rfl ⟨rfl, below_ch ?_⟩
  · simp [results, Tryz.results37, go_sem]
  · repeat (refine Below.setCell ?_ (by simp) _)
    exact (Below.refl _ _).alloc (Nat.le_refl _) _
set_option maxRecDepth 100000 in
theorem nil_setrequest (p : Int) (w : World) : Calls Tryz.prog 50 #[.pointer none, .int .i64 p, .agg #[.int .u8 0, .int .i64 0, .int .i64 0, .int .i64 0, .int .u32 0, .int .u8 0, .string ⟨#[]⟩]] w fun e w' => e = .returned (.int .i64 1) ∧ Ch (fun _ => False) w w' := by
  go_enter Tryz.func50, Tryz.ntmps50
  go_wp2_with fail
  refine (nil_check p _).mono ?_
  rintro e w' ⟨rfl, rfl⟩
  go_wp2_with fail
  go_ret
  exact ⟨rfl, (Ch.refl _ w).alloc _⟩
set_option maxRecDepth 100000 in
theorem nil_setreply (p : Int) (w : World) : Calls Tryz.prog 52 #[.pointer none, .int .i64 p, .agg #[.int .i64 0, .int .i64 0, .int .i64 0, .int .i64 0, .int .u8 0, .string ⟨#[]⟩, .int .i64 0, .int .i64 0, .int .i64 0, .int .u8 0, .int .i64 0, .int .i64 0, .slice none 0 0]] w fun e w' => e = .returned (.int .i64 1) ∧ Ch (fun _ => False) w w' := by
  go_enter Tryz.func52, Tryz.ntmps52
  go_wp2_with fail
  refine (nil_check p _).mono ?_
  rintro e w' ⟨rfl, rfl⟩
  go_wp2_with fail
  go_ret
  exact ⟨rfl, (Ch.refl _ w).alloc _⟩
set_option maxRecDepth 100000 in
theorem nil_bank (w : World) : Calls Tryz.prog 14 #[.pointer none] w fun e w' => e = .returned (.pointer none) ∧ w = w' := by
  go_enter Tryz.func14, Tryz.ntmps14
  go_wp2_with fail
  go_ret
  exact ⟨rfl, rfl⟩
set_option maxRecDepth 100000 in
theorem nil_arena (w : World) : Calls Tryz.prog 15 #[.pointer none] w fun e w' => e = .returned (.pointer none) ∧ w = w' := by
  go_enter Tryz.func15, Tryz.ntmps15
  go_wp2_with fail
  go_ret
  exact ⟨rfl, rfl⟩
set_option maxRecDepth 100000 in
theorem nil_queue (w : World) : Calls Tryz.prog 16 #[.pointer none] w fun e w' => e = .returned (.pointer none) ∧ w = w' := by
  go_enter Tryz.func16, Tryz.ntmps16
  go_wp2_with fail
  go_ret
  exact ⟨rfl, rfl⟩
set_option maxRecDepth 100000 in
theorem nil_epoch (w : World) : Calls Tryz.prog 17 #[.pointer none] w fun e w' => e = .returned (.pointer none) ∧ w = w' := by
  go_enter Tryz.func17, Tryz.ntmps17
  go_wp2_with fail
  go_ret
  exact ⟨rfl, rfl⟩
set_option maxRecDepth 100000 in
theorem nil_latest (w : World) : Calls Tryz.prog 13 #[.pointer none] w fun e w' => e = .returned (.int .i64 0) ∧ w = w' := by
  go_enter Tryz.func13, Tryz.ntmps13
  go_wp2_with fail
  go_ret
  exact ⟨rfl, rfl⟩
set_option maxRecDepth 100000 in
theorem nil_config (w : World) : Calls Tryz.prog 11 #[.pointer none] w fun e w' => e = .returned (.agg #[.int .i64 0, .int .u64 0, .int .i64 0, .int .i64 0, .int .i64 0, .int .i64 0, .int .i64 0, .string ⟨#[]⟩]) ∧ Ch (fun _ => False) w w' := by
  go_enter Tryz.func11, Tryz.ntmps11
  go_wp2_with fail
  refine bodyPost_ret (v := .agg #[.int .i64 0, .int .u64 0, .int .i64 0, .int .i64 0, .int .i64 0, .int .i64 0, .int .i64 0, .string ⟨#[]⟩]) ?_ rfl ⟨rfl, below_ch ?_⟩
  · simp [results, Tryz.results11, go_sem]
  · repeat (refine Below.setCell ?_ (by simp) _)
    exact (Below.refl _ _).alloc (Nat.le_refl _) _
set_option maxRecDepth 100000 in
theorem nil_layout (w : World) : Calls Tryz.prog 12 #[.pointer none] w fun e w' => e = .returned (.agg #[.int .i64 0, .int .i64 0, .int .i64 0, .int .i64 0, .int .i64 0, .int .i64 0, .int .i64 0, .int .i64 0, .int .i64 0, .int .i64 0]) ∧ Ch (fun _ => False) w w' := by
  go_enter Tryz.func12, Tryz.ntmps12
  go_wp2_with fail
  refine bodyPost_ret (v := .agg #[.int .i64 0, .int .i64 0, .int .i64 0, .int .i64 0, .int .i64 0, .int .i64 0, .int .i64 0, .int .i64 0, .int .i64 0, .int .i64 0]) ?_ rfl ⟨rfl, below_ch ?_⟩
  · simp [results, Tryz.results12, go_sem]
  · repeat (refine Below.setCell ?_ (by simp) _)
    exact (Below.refl _ _).alloc (Nat.le_refl _) _
/-! Texts. -/
def exT : ByteArray := ⟨#[97, 98]⟩
def exU : ByteArray := ⟨#[97, 98, 99, 100, 101, 102, 103, 104, 105, 106, 107, 108, 109, 110, 111, 112, 113]⟩
theorem exT_build : buildT exT = [.leaf exT] := by kernel_rfl
theorem exU_cnt : (buildT exU).map T.cnt = [3] := by kernel_rfl
theorem exT_root {x : Rt} {en : Int} {ns : List An} (h : RopeRes 8 exT x en ns) : en = 0 ∧ x.a = 65536 ∧ x.h = 0 ∧ x.b = 2 := by
  rcases h with ⟨h0, _⟩ | ⟨_, t, ht, _, hb, ⟨_, e1, e2, _⟩ | ⟨hc, _⟩⟩
  · exact absurd h0 (by decide)
  · rw [exT_build] at ht
    injection ht with ht _
    subst ht
    rw [e1]
    refine ⟨e2, rfl, rfl, ?_⟩
    show (T.leaf exT).meas.b = 2
    rw [(meas_bytes _).1, hb]; rfl
  · rw [exT_build] at ht
    injection ht with ht _
    subst ht
    exact absurd hc (by decide)
theorem exU_errno {n : Nat} {x : Rt} {en : Int} {ns : List An} (h : RopeRes n exU x en ns) : (n < 3 → en = 6) ∧ (3 ≤ n → en = 0) := by
  have hc : ∀ t, buildT exU = [t] → t.cnt = 3 := fun t ht => by
    have := exU_cnt
    rw [ht] at this
    simpa using this
  rcases h with ⟨h0, _⟩ | ⟨_, t, ht, _, hb, ⟨h1, _, e, _⟩ | ⟨h1, _, e, _⟩⟩
  · exact absurd h0 (by decide)
  · have := hc t ht
    exact ⟨fun _ => by omega, fun _ => e⟩
  · have := hc t ht
    exact ⟨fun _ => e, fun _ => by omega⟩
theorem ex_ck {c : Cf} (h : c.nums) (hs : c.tx.size ≤ 300) (hl : ∀ x ∈ bs c.tx, 0 ≤ x ∧ x < 128) : ckE c = 0 := by
  unfold ckE
  rw [if_neg (fun h' => h' h), if_neg (by omega), if_neg]
  rw [vdB_true (vd_ascii _ (bs c.tx) rfl hl)]
  decide
/-- The store of the examples. -/
theorem snw_ex {w w' : World} {e : Ending} (hn : SnwOut 8 3 2 5 2 4 1 exT w e w') :
    ∃ sb cs rv x, e = .returned (.tuple #[.pointer (some ⟨sb, 0, none⟩), .int .i64 0]) ∧ Chn w.heap.size sb cs rv (.slice none 0 0) [rootI x] [] w' ∧ (x.a = 65536 ∧ x.h = 0 ∧ x.b = 2) ∧ Ch (fun _ => False) w w' := by
  rcases hn with ⟨x, ns, hr, _⟩ | ⟨x, ns, sb, p, cb, A, qb, eb, pb, rvb, rN, cN, fv, fds, hr, _, he, _, _, _, _, _, hM⟩
  · exact absurd (exT_root hr).1 (by decide)
  · refine ⟨sb, _, .slice (some ⟨rvb, 0, none⟩) 1 1, x, he, ⟨hM.low 0 _ rfl sb rfl, hM.each 0 _ rfl, ?_, hM.each 3 _ rfl, World.ownsRow_nil _ _ _ _, fun r hr => ?_⟩, (exT_root hr).2, ⟨hM.bel.os, hM.bel.tape, hM.bel.output, hM.bel.size, fun k hk _ => hM.bel.block k hk⟩⟩
    · simp [stoCells]
    · simp at hr
      rw [hr]
      exact World.ownsRow_nil _ _ _ _
theorem snw_full {w w' : World} {e : Ending} (hn : SnwOut 2 3 2 5 2 4 1 exU w e w') : e = .returned (.tuple #[.pointer none, .int .i64 6]) ∧ Below w.heap.size w w' := by
  rcases hn with ⟨x, ns, hr, he, hb⟩ | ⟨x, ns, sb, p, cb, A, qb, eb, pb, rvb, rN, cN, fv, fds, hr, _⟩
  · exact ⟨he, hb⟩
  · exact absurd ((exU_errno hr).1 (by decide)) (by decide)
theorem snw_fits {w w' : World} {e : Ending} (hn : SnwOut 3 3 2 5 2 4 1 exU w e w') : ∃ sb, e = .returned (.tuple #[.pointer (some ⟨sb, 0, none⟩), .int .i64 0]) ∧ Below w.heap.size w w' := by
  rcases hn with ⟨x, ns, hr, he, hb⟩ | ⟨x, ns, sb, p, cb, A, qb, eb, pb, rvb, rN, cN, fv, fds, hr, _, he, _, _, _, _, _, hM⟩
  · exact absurd ((exU_errno hr).2 (by decide)) (by decide)
  · exact ⟨sb, he, hM.bel⟩
set_option maxRecDepth 100000 in
set_option maxHeartbeats 1000000 in
theorem publish_low (B sb : Nat) (cs : Array Value) (A : Option Addr) (cap n : Nat) (xs : List Value) (last : Int) (x : Rv) (am ad : Option Addr) (n1 c1 n2 c2 : Nat) (w : World)
    (hS : Blk w sb 134 cs) (h23 : cs[23]? = some (.slice A (n + 1) cap)) (hown : w.ownsRow B 79 8 (.slice A (n + 1) cap) (n + 1) xs) (hlast : xs[n * 8]? = some (.int .i64 last)) (hx : x.num ≤ last) (hn : n < 900) (hB : B ≤ w.heap.size) :
    Calls Tryz.prog 47 #[.pointer (some ⟨sb, 0, none⟩), .agg #[.int .i64 x.num, .int .u64 x.at', .int .i64 x.h, .int .i64 x.b, .int .i64 x.r, .int .i64 x.l, .slice am n1 c1, .slice ad n2 c2]] w fun e w' => e = .returned (.tuple #[.int .i64 0, .int .i64 8]) ∧ Ch (fun _ => False) w w' := by
  obtain ⟨g, cap', hv, hcap, hcm, hBg, hgl⟩ := own_form hown (by omega)
  injection hv with hA _ hc'
  subst hA hc'
  have dl : decide (x.num ≤ last) = true := decide_eq_true (by omega)
  have hsl := hS.lt
  have dn : decide (n < n + 1) = true := decide_eq_true (by omega)
  have dn' : decide ((n : Int) < ((n + 1 : Nat) : Int)) = true := decide_eq_true (by omega)
  have H := hid hown
  have HS := hid hS
  have HL := hid hlast
  have H23 := hid h23
  clear hown hS hlast h23
  go_enter Tryz.func47, Tryz.ntmps47
  go_wp2_with fail
  refine at_world fun W1 hW1 => ?_
  have cW : Ch (fun _ => False) w W1 := by rw [hW1]; exact (Ch.refl _ w).alloc _
  have bB : Blk W1 w.heap.size 79 #[.int .i64 x.num, .int .u64 x.at', .int .i64 x.h, .int .i64 x.b, .int .i64 x.r, .int .i64 x.l, .slice am n1 c1, .slice ad n2 c2] := by rw [hW1]; exact Blk.new w _ _
  have HW := hid cW
  clear hW1 cW
  have k23 : W1.cell? ⟨sb, 23, none⟩ = some (.slice (some ⟨g, 0, none⟩) (n + 1) cap) := (HW.out.blk HS.out id).cell 23 |>.trans H23.out
  have kl : W1.cell? ⟨g, n * 8, none⟩ = some (.int .i64 last) := by
    have := (HW.out.own H.out (fun _ _ => id)).cells (g := g) rfl (n * 8) _ HL.out
    rw [addr_add0] at this
    exact this
  have k0 : W1.cell? ⟨w.heap.size, 0, none⟩ = some (.int .i64 x.num) := bB.cell 0
  go_quiet ((go_at_call 13; exact latest_q sb n cap (some ⟨g, 0, none⟩) W1 k23 (by omega) _))
  go_wp2_with fail
  go_ret2
  exact ⟨rfl, by first | exact HW.out | exact HW.out.drewN _⟩
set_option maxRecDepth 100000 in
set_option maxHeartbeats 4000000 in
theorem storeEx_walk (w : World) : Calls Tryz.prog 7 #[] w fun e w' => e = .returned (.bool true) ∧ Below w.heap.size w w' := by
  have hck1 : ckE ⟨8, 5, 2, 2, 3, 4, 1, exT⟩ = 0 := ex_ck (by simp [Cf.nums]) (by decide) (by decide)
  have hck2 : ckE ⟨2, 5, 2, 2, 3, 4, 1, exU⟩ = 0 := ex_ck (by simp [Cf.nums]) (by decide) (by decide)
  have hck3 : ckE ⟨3, 5, 2, 2, 3, 4, 1, exU⟩ = 0 := ex_ck (by simp [Cf.nums]) (by decide) (by decide)
  have K1 := hid hck1
  have K2 := hid hck2
  have K3 := hid hck3
  clear hck1 hck2 hck3
  go_enter Tryz.func7, Tryz.ntmps7
  go_wp2_with fail
  refine calls_world fun W1 hW1 => ?_
  have C1 := hid (show Ch (fun _ => False) w W1 from by rw [hW1]; exact (Ch.refl _ w).alloc _)
  have F1 := hid (show Blk W1 w.heap.size 24 #[.int .i64 8, .int .u64 5, .int .i64 2, .int .i64 2, .int .i64 3, .int .i64 4, .int .i64 1, .string exT] from by rw [hW1]; exact Blk.new w _ _)
  clear hW1
  refine (place_ok ⟨8, 5, 2, 2, 3, 4, 1, exT⟩ W1 (by decide) K1.out).mono ?_
  rintro e w2 ⟨rfl, hbel⟩
  have hc := below_ch hbel
  have C2 := hid (C1.out.trans hc (fun _ _ h => h))
  have F2 := hid (hc.blk F1.out id)
  clear hc hbel
  rw [show layV (Cf.l6 ⟨8, 5, 2, 2, 3, 4, 1, exT⟩) (Cf.l7 ⟨8, 5, 2, 2, 3, 4, 1, exT⟩) (Cf.l8 ⟨8, 5, 2, 2, 3, 4, 1, exT⟩) (Cf.l9 ⟨8, 5, 2, 2, 3, 4, 1, exT⟩) = .agg #[.int .i64 0, .int .i64 1, .int .i64 2, .int .i64 3, .int .i64 4, .int .i64 5, .int .i64 8, .int .i64 12, .int .i64 14, .int .i64 24] from rfl]
  have f0 : w2.cell? ⟨w.heap.size, 0, none⟩ = some (.int .i64 8) := F2.out.cell 0
  have f1 : w2.cell? ⟨w.heap.size, 1, none⟩ = some (.int .u64 5) := F2.out.cell 1
  have f2 : w2.cell? ⟨w.heap.size, 2, none⟩ = some (.int .i64 2) := F2.out.cell 2
  have f3 : w2.cell? ⟨w.heap.size, 3, none⟩ = some (.int .i64 2) := F2.out.cell 3
  have f4 : w2.cell? ⟨w.heap.size, 4, none⟩ = some (.int .i64 3) := F2.out.cell 4
  have f5 : w2.cell? ⟨w.heap.size, 5, none⟩ = some (.int .i64 4) := F2.out.cell 5
  have f6 : w2.cell? ⟨w.heap.size, 6, none⟩ = some (.int .i64 1) := F2.out.cell 6
  have f7 : w2.cell? ⟨w.heap.size, 7, none⟩ = some (.string exT) := F2.out.cell 7
  have l2 := F2.out.lt
  go_wp2_with fail
  refine calls_world fun W3 hW3 => ?_
  have C3 := hid (show Ch (fun _ => False) w W3 from by rw [hW3]; exact C2.out.alloc _)
  have F3 := hid (show Blk W3 w.heap.size 24 #[.int .i64 8, .int .u64 5, .int .i64 2, .int .i64 2, .int .i64 3, .int .i64 4, .int .i64 1, .string exT] from by rw [hW3]; exact F2.out.alloc _)
  clear hW3 f0 f1 f2 f3 f4 f5 f6 f7
  refine (snew 8 3 2 5 2 4 1 exT K1.out W3).mono ?_
  intro e w4 hsn
  obtain ⟨sb, cs, rv, ⟨xa, xh, xb, xr, xl⟩, rfl, hch, ⟨hx1, hx2, hx3⟩, hc⟩ := snw_ex hsn
  simp only at hx1 hx2 hx3
  subst hx1 hx2 hx3
  have C4 := hid (C3.out.trans hc (fun _ _ h => h))
  have F4 := hid (hc.blk F3.out id)
  obtain ⟨rA, rc, hrv, -⟩ := own_slice hch.hr
  have hrl : [rootI ⟨65536, 0, 2, xr, xl⟩].length = 1 := rfl
  rw [hrl] at hrv
  subst hrv
  have R4 := hid hch
  clear hsn hch hc hrl
  go_wp2_with fail
  refine (latest_any sb 0 rc rA w4 ((R4.out.hs.cell 23).trans R4.out.h23) (by omega)).mono ?_
  rintro e w' ⟨rfl, rfl⟩
  go_wp2_with fail
  refine (revision_any W3.heap.size sb cs rA rc 1 0 _ ⟨0, 65536, 0, 2, xr, xl⟩ none none 0 0 0 0 [] [] w4 R4.out.hs R4.out.h23 R4.out.hr (by omega) (by omega) ?q1 ⟨rfl, fun h => absurd h (by decide)⟩ ⟨rfl, fun h => absurd h (by decide)⟩ (fun _ => rfl) (fun _ => rfl) (by decide) (by decide)).mono ?_
  case q1 =>
    intro j v hv
    rw [Nat.zero_mul, Nat.zero_add]
    exact hv
  rintro e w5 ⟨mv, dv, rfl, ho1, ho2, hc⟩
  obtain ⟨mA, mc, hmv, -⟩ := own_slice ho1
  obtain ⟨dA, dc, hdv, -⟩ := own_slice ho2
  subst hmv hdv
  have C5 := hid (C4.out.trans hc (fun _ _ h => h))
  have F5 := hid (hc.blk F4.out id)
  have R5 := hid (R4.out.keep hc)
  clear ho1 ho2 hc
  simp only [rvA]
  go_wp2_with fail
  refine calls_world fun W6 hW6 => ?_
  have C6 := hid (show Ch (fun _ => False) w W6 from by rw [hW6]; exact C5.out.alloc _)
  have F6 := hid (show Blk W6 w.heap.size 24 #[.int .i64 8, .int .u64 5, .int .i64 2, .int .i64 2, .int .i64 3, .int .i64 4, .int .i64 1, .string exT] from by rw [hW6]; exact F5.out.alloc _)
  have R6 := hid (show Chn W3.heap.size sb cs (.slice rA 1 rc) (.slice none 0 0) [rootI ⟨65536, 0, 2, xr, xl⟩] [] W6 from by rw [hW6]; exact R5.out.keep ((Ch.refl _ _).alloc _))
  obtain ⟨vb, hvb⟩ : ∃ x, x = w5.heap.size := ⟨_, rfl⟩
  have V6 := hid (show Blk W6 vb 79 #[.int .i64 0, .int .u64 65536, .int .i64 0, .int .i64 2, .int .i64 xr, .int .i64 xl, .slice mA 0 mc, .slice dA 0 dc] from by rw [hW6, hvb]; exact Blk.new w5 _ _)
  have L6 := hid (show W3.heap.size ≤ W6.heap.size from by rw [hW6]; have := R5.out.hs.lt; have := R5.out.hb; simp; omega)
  have nvb : w.heap.size < vb := by rw [hvb]; exact F5.out.lt
  rw [← hvb]
  clear hW6 hvb
  refine (publish_low W3.heap.size sb cs rA rc 0 _ 0 ⟨0, 0, 0, 0, 0, 0⟩ none none 0 0 0 0 W6 R6.out.hs R6.out.h23 R6.out.hr rfl (by decide) (by decide) L6.out).mono ?_
  rintro e w7 ⟨rfl, hc⟩
  have C7 := hid (C6.out.trans hc (fun _ _ h => h))
  have F7 := hid (hc.blk F6.out id)
  have R7 := hid (R6.out.keep hc)
  have V7 := hid (hc.blk V6.out id)
  clear hc
  obtain ⟨g, cap', hrA, -⟩ := own_form R7.out.hr (Nat.succ_pos _)
  injection hrA with hrA hlen hrc
  clear hlen
  subst hrA hrc
  go_wp2_with fail
  refine (delta_any W3.heap.size sb 1 rc g [rootI ⟨65536, 0, 2, xr, xl⟩] 0 0 w7 ((R7.out.hs.cell 23).trans R7.out.h23) R7.out.hr rfl (fun r hr => ?d1) (by decide) (by decide) (by decide)).mono ?_
  case d1 =>
    simp at hr
    rw [hr]
    exact ⟨⟨rfl, fun h => absurd h (Nat.lt_irrefl 0)⟩, Nat.le_refl 0, Nat.succ_pos _⟩
  rintro e w8 ⟨v, r, hr, rfl, hown, hc⟩
  injection hr with hr
  subst hr
  have ha : Dl.allE 2 (between [rootI ⟨65536, 0, 2, xr, xl⟩] 0 (0 - 0)) = ([Dl.retP 2], 0) := by
    have : between [rootI ⟨65536, 0, 2, xr, xl⟩] 0 (0 - 0) = [] := rfl
    rw [this]
    simp [Dl.allE, Dl.allGo, Dl.idE, Dl.idn]
  simp only [rootI] at ha hown ⊢
  rw [ha] at hown ⊢
  obtain ⟨pA, pc, hpv, hin⟩ := chains_made hown
  have hp1 : [Dl.retP 2].length = 1 := rfl
  simp only [hp1] at hpv hin
  subst hpv
  have C8 := hid (C7.out.trans hc (fun _ _ h => h))
  have F8 := hid (hc.blk F7.out id)
  have V8 := hid (hc.blk V7.out id)
  have I8 := hid hin
  clear hc hin hown ha hp1
  go_wp2_with fail
  refine calls_world fun W9 hW9 => ?_
  have C9 := hid (show Ch (fun _ => False) w W9 from by rw [hW9]; exact C8.out.alloc _)
  have F9 := hid (show Blk W9 w.heap.size 24 #[.int .i64 8, .int .u64 5, .int .i64 2, .int .i64 2, .int .i64 3, .int .i64 4, .int .i64 1, .string exT] from by rw [hW9]; exact F8.out.alloc _)
  have V9 := hid (show Blk W9 vb 79 #[.int .i64 0, .int .u64 65536, .int .i64 0, .int .i64 2, .int .i64 xr, .int .i64 xl, .slice mA 0 mc, .slice dA 0 dc] from by rw [hW9]; exact V8.out.alloc _)
  have I9 := hid (show InPc W9 pA 1 [Dl.retP 2] from by rw [hW9]; exact I8.out.kp ((Ch.refl _ _).alloc _))
  have J9 := hid (show InPc W9 (some ⟨w8.heap.size, 0, none⟩) 1 [Dl.retP 2] from by
    rw [hW9]
    refine ⟨rfl, fun _ => ⟨_, 0, rfl, by simp, fun i j x v hi hj => ?_⟩⟩
    match i, hi with
    | 0, hi =>
      injection hi with hi
      subst hi
      rw [Nat.zero_mul, Nat.zero_add, Nat.zero_add]
      exact ((Blk.new w8 _ _).cell j).trans (by rw [← List.getElem?_toArray] at hj; exact hj)
    | i + 1, hi => simp at hi)
  clear hW9
  refine (eqPieces_any pA _ 1 pc _ [Dl.retP 2] W9 I9.out J9.out (by decide)).mono ?_
  rintro e w10 ⟨rfl, z, rfl⟩
  have C10 := hid (C9.out.drewN z)
  have F10 := hid (F9.out.drewN z)
  have V10 := hid (V9.out.drewN z)
  clear J9
  have f0 : (W9.drewN z).cell? ⟨w.heap.size, 0, none⟩ = some (.int .i64 8) := F10.out.cell 0
  have f1 : (W9.drewN z).cell? ⟨w.heap.size, 1, none⟩ = some (.int .u64 5) := F10.out.cell 1
  have f2 : (W9.drewN z).cell? ⟨w.heap.size, 2, none⟩ = some (.int .i64 2) := F10.out.cell 2
  have f3 : (W9.drewN z).cell? ⟨w.heap.size, 3, none⟩ = some (.int .i64 2) := F10.out.cell 3
  have f4 : (W9.drewN z).cell? ⟨w.heap.size, 4, none⟩ = some (.int .i64 3) := F10.out.cell 4
  have f5 : (W9.drewN z).cell? ⟨w.heap.size, 5, none⟩ = some (.int .i64 4) := F10.out.cell 5
  have f6 : (W9.drewN z).cell? ⟨w.heap.size, 6, none⟩ = some (.int .i64 1) := F10.out.cell 6
  have f7 : (W9.drewN z).cell? ⟨w.heap.size, 7, none⟩ = some (.string exT) := F10.out.cell 7
  have l10 := F10.out.lt
  have fr0 := F10.out.free 0
  have fr7 := F10.out.free 7
  go_wp2_with fail
  refine calls_world fun W11 hW11 => ?_
  have C11 := hid (show Ch (fun _ => False) w W11 from by rw [hW11]; exact (C10.out.set (fun h => absurd h (Nat.lt_irrefl _)) _).set (fun h => absurd h (Nat.lt_irrefl _)) _)
  have F11 := hid (show Blk W11 w.heap.size 24 #[.int .i64 2, .int .u64 5, .int .i64 2, .int .i64 2, .int .i64 3, .int .i64 4, .int .i64 1, .string exU] from by rw [hW11]; exact (F10.out.put 0 _).put 7 _)
  have V11 := hid (show Blk W11 vb 79 #[.int .i64 0, .int .u64 65536, .int .i64 0, .int .i64 2, .int .i64 xr, .int .i64 xl, .slice mA 0 mc, .slice dA 0 dc] from by rw [hW11]; exact (V10.out.far (by simp; omega) _).far (by simp; omega) _)
  clear hW11 f0 f1 f2 f3 f4 f5 f6 f7 fr0 fr7
  refine (snew 2 3 2 5 2 4 1 exU K2.out W11).mono ?_
  intro e w12 hsn
  obtain ⟨rfl, hb⟩ := snw_full hsn
  have hc := below_ch hb
  have C12 := hid (C11.out.trans hc (fun _ _ h => h))
  have F12 := hid (hc.blk F11.out id)
  have V12 := hid (hc.blk V11.out id)
  clear hsn hb hc
  have f0 : w12.cell? ⟨w.heap.size, 0, none⟩ = some (.int .i64 2) := F12.out.cell 0
  have f1 : w12.cell? ⟨w.heap.size, 1, none⟩ = some (.int .u64 5) := F12.out.cell 1
  have f2 : w12.cell? ⟨w.heap.size, 2, none⟩ = some (.int .i64 2) := F12.out.cell 2
  have f3 : w12.cell? ⟨w.heap.size, 3, none⟩ = some (.int .i64 2) := F12.out.cell 3
  have f4 : w12.cell? ⟨w.heap.size, 4, none⟩ = some (.int .i64 3) := F12.out.cell 4
  have f5 : w12.cell? ⟨w.heap.size, 5, none⟩ = some (.int .i64 4) := F12.out.cell 5
  have f6 : w12.cell? ⟨w.heap.size, 6, none⟩ = some (.int .i64 1) := F12.out.cell 6
  have f7 : w12.cell? ⟨w.heap.size, 7, none⟩ = some (.string exU) := F12.out.cell 7
  have fr0 := F12.out.free 0
  go_wp2_with fail
  refine calls_world fun W13 hW13 => ?_
  have C13 := hid (show Ch (fun _ => False) w W13 from by rw [hW13]; exact C12.out.set (fun h => absurd h (Nat.lt_irrefl _)) _)
  have V13 := hid (show Blk W13 vb 79 #[.int .i64 0, .int .u64 65536, .int .i64 0, .int .i64 2, .int .i64 xr, .int .i64 xl, .slice mA 0 mc, .slice dA 0 dc] from by rw [hW13]; exact V12.out.far (by simp; omega) _)
  clear hW13 f0 f1 f2 f3 f4 f5 f6 f7 fr0
  refine (snew 3 3 2 5 2 4 1 exU K3.out W13).mono ?_
  intro e w14 hsn
  obtain ⟨sb2, rfl, hb⟩ := snw_fits hsn
  have hc := below_ch hb
  have C14 := hid (C13.out.trans hc (fun _ _ h => h))
  have V14 := hid (hc.blk V13.out id)
  clear hsn hb hc
  have g0 : w14.cell? ⟨vb, 0, none⟩ = some (.int .i64 0) := V14.out.cell 0
  have g1 : w14.cell? ⟨vb, 1, none⟩ = some (.int .u64 65536) := V14.out.cell 1
  have g2 : w14.cell? ⟨vb, 2, none⟩ = some (.int .i64 0) := V14.out.cell 2
  have g3 : w14.cell? ⟨vb, 3, none⟩ = some (.int .i64 2) := V14.out.cell 3
  have g4 : w14.cell? ⟨vb, 4, none⟩ = some (.int .i64 xr) := V14.out.cell 4
  have g5 : w14.cell? ⟨vb, 5, none⟩ = some (.int .i64 xl) := V14.out.cell 5
  have g6 : w14.cell? ⟨vb, 6, none⟩ = some (.slice mA 0 mc) := V14.out.cell 6
  have g7 : w14.cell? ⟨vb, 7, none⟩ = some (.slice dA 0 dc) := V14.out.cell 7
  go_wp2_with fail
  refine (nil_publish _ _ _ _ _ _ _ _ w14).mono ?_
  rintro e w15 ⟨rfl, hc⟩
  have C15 := hid (C14.out.trans hc (fun _ _ h => h))
  clear hc g0 g1 g2 g3 g4 g5 g6 g7
  go_wp2_with fail
  refine (nil_revision 0 w15).mono ?_
  rintro e w16 ⟨rfl, hc⟩
  have C16 := hid (C15.out.trans hc (fun _ _ h => h))
  clear hc
  go_wp2_with fail
  refine calls_world fun W16 hW16 => ?_
  have D16 := hid (show Ch (fun _ => False) w W16 from by rw [hW16]; exact C16.out.alloc _)
  clear hW16
  refine (nil_delta 0 0 W16).mono ?_
  rintro e w17 ⟨rfl, hc⟩
  have C17 := hid (D16.out.trans hc (fun _ _ h => h))
  clear hc
  go_wp2_with fail
  refine (nil_feed 0 w17).mono ?_
  rintro e w18 ⟨rfl, hc⟩
  have C18 := hid (C17.out.trans hc (fun _ _ h => h))
  clear hc
  go_wp2_with fail
  refine (nil_request 0 w18).mono ?_
  rintro e w19 ⟨rfl, hc⟩
  have C19 := hid (C18.out.trans hc (fun _ _ h => h))
  clear hc
  go_wp2_with fail
  refine calls_world fun W19 hW19 => ?_
  have D19 := hid (show Ch (fun _ => False) w W19 from by rw [hW19]; exact C19.out.alloc _)
  clear hW19
  refine (nil_reply 0 W19).mono ?_
  rintro e w20 ⟨rfl, hc⟩
  have C20 := hid (D19.out.trans hc (fun _ _ h => h))
  clear hc
  go_wp2_with fail
  refine calls_world fun W20 hW20 => ?_
  have D20 := hid (show Ch (fun _ => False) w W20 from by rw [hW20]; exact C20.out.alloc _)
  clear hW20
  refine (nil_setrequest 0 W20).mono ?_
  rintro e w21 ⟨rfl, hc⟩
  have C21 := hid (D20.out.trans hc (fun _ _ h => h))
  clear hc
  go_wp2_with fail
  refine (nil_setreply 0 w21).mono ?_
  rintro e w22 ⟨rfl, hc⟩
  have C22 := hid (C21.out.trans hc (fun _ _ h => h))
  clear hc
  go_wp2_with fail
  refine (nil_bank w22).mono ?_
  rintro e w' ⟨rfl, rfl⟩
  go_wp2_with fail
  refine (nil_arena w22).mono ?_
  rintro e w' ⟨rfl, rfl⟩
  go_wp2_with fail
  refine (nil_queue w22).mono ?_
  rintro e w' ⟨rfl, rfl⟩
  go_wp2_with fail
  refine (nil_epoch w22).mono ?_
  rintro e w' ⟨rfl, rfl⟩
  go_wp2_with fail
  refine (nil_latest w22).mono ?_
  rintro e w' ⟨rfl, rfl⟩
  go_wp2_with fail
  refine (nil_config w22).mono ?_
  rintro e w23 ⟨rfl, hc⟩
  have C23 := hid (C22.out.trans hc (fun _ _ h => h))
  clear hc
  go_wp2_with fail
  refine (nil_layout w23).mono ?_
  rintro e w24 ⟨rfl, hc⟩
  have C24 := hid (C23.out.trans hc (fun _ _ h => h))
  clear hc
  go_wp2_with fail
  go_ret
  exact ⟨rfl, C24.out.below (Nat.le_refl _) (fun _ h => h.elim)⟩
end Go.Proofs.YtefpabicgefciaaGreat
