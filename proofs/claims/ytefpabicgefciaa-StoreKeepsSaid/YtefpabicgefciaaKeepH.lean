/- store.New without clients and with an empty text. -/
import Derived.Test.YtefpabicgefciaaKeepG
import Derived.Test.YtefpabicgefciaaPlaceB
import Derived.Test.YtefpabicgefciaaCellC
import Derived.Test.YtefpabicgefciaaQNewA
import Derived.Test.YtefpabicgefciaaENewA
import Derived.Test.YtefpabicgefciaaMixJ
namespace Go.Proofs.Ytefpabicgefciaa
open Go.RowKit
set_option linter.unusedVariables false
set_option linter.unusedSimpArgs false
set_option linter.unusedSectionVars false

/-- A store in memory. -/
structure StC (w : World) (sb : Nat) (hd : List Value) (a b c d e f : Value) (cs : Array Value) : Prop where
  blk : Blk w sb 71 cs
  h : ∀ k, k < 18 → cs[k]? = hd[k]?
  c18 : cs[18]? = some a
  c19 : cs[19]? = some b
  c20 : cs[20]? = some c
  c21 : cs[21]? = some d
  c22 : cs[22]? = some e
  c23 : cs[23]? = some f

section
variable {w w' : World} {sb : Nat} {hd : List Value} {a b c d e f : Value} {cs : Array Value}
theorem StC.keep (h : StC w sb hd a b c d e f cs) {fp : Nat → Prop} (ch : Ch fp w w') (hn : ¬ fp sb) : StC w' sb hd a b c d e f cs := { h with blk := ch.blk h.blk hn }
theorem StC.drewN (h : StC w sb hd a b c d e f cs) (m : Nat) : StC (w.drewN m) sb hd a b c d e f cs := { h with blk := h.blk.drewN m }
theorem StC.put18 (h : StC w sb hd a b c d e f cs) (x : Value) : StC (w.setCell ⟨sb, 18, none⟩ x) sb hd x b c d e f (cs.setIfInBounds 18 x) :=
  ⟨h.blk.put 18 x, fun k hk => by rw [Array.getElem?_setIfInBounds, if_neg (by omega)]; exact h.h k hk,
    by rw [Array.getElem?_setIfInBounds, if_pos rfl, if_pos (Array.getElem?_eq_some_iff.1 h.c18).1],
    by rw [Array.getElem?_setIfInBounds, if_neg (by decide)]; exact h.c19,
    by rw [Array.getElem?_setIfInBounds, if_neg (by decide)]; exact h.c20,
    by rw [Array.getElem?_setIfInBounds, if_neg (by decide)]; exact h.c21,
    by rw [Array.getElem?_setIfInBounds, if_neg (by decide)]; exact h.c22,
    by rw [Array.getElem?_setIfInBounds, if_neg (by decide)]; exact h.c23⟩
theorem StC.put19 (h : StC w sb hd a b c d e f cs) (x : Value) : StC (w.setCell ⟨sb, 19, none⟩ x) sb hd a x c d e f (cs.setIfInBounds 19 x) :=
  ⟨h.blk.put 19 x, fun k hk => by rw [Array.getElem?_setIfInBounds, if_neg (by omega)]; exact h.h k hk,
    by rw [Array.getElem?_setIfInBounds, if_neg (by decide)]; exact h.c18,
    by rw [Array.getElem?_setIfInBounds, if_pos rfl, if_pos (Array.getElem?_eq_some_iff.1 h.c19).1],
    by rw [Array.getElem?_setIfInBounds, if_neg (by decide)]; exact h.c20,
    by rw [Array.getElem?_setIfInBounds, if_neg (by decide)]; exact h.c21,
    by rw [Array.getElem?_setIfInBounds, if_neg (by decide)]; exact h.c22,
    by rw [Array.getElem?_setIfInBounds, if_neg (by decide)]; exact h.c23⟩
theorem StC.put20 (h : StC w sb hd a b c d e f cs) (x : Value) : StC (w.setCell ⟨sb, 20, none⟩ x) sb hd a b x d e f (cs.setIfInBounds 20 x) :=
  ⟨h.blk.put 20 x, fun k hk => by rw [Array.getElem?_setIfInBounds, if_neg (by omega)]; exact h.h k hk,
    by rw [Array.getElem?_setIfInBounds, if_neg (by decide)]; exact h.c18,
    by rw [Array.getElem?_setIfInBounds, if_neg (by decide)]; exact h.c19,
    by rw [Array.getElem?_setIfInBounds, if_pos rfl, if_pos (Array.getElem?_eq_some_iff.1 h.c20).1],
    by rw [Array.getElem?_setIfInBounds, if_neg (by decide)]; exact h.c21,
    by rw [Array.getElem?_setIfInBounds, if_neg (by decide)]; exact h.c22,
    by rw [Array.getElem?_setIfInBounds, if_neg (by decide)]; exact h.c23⟩
theorem StC.put21 (h : StC w sb hd a b c d e f cs) (x : Value) : StC (w.setCell ⟨sb, 21, none⟩ x) sb hd a b c x e f (cs.setIfInBounds 21 x) :=
  ⟨h.blk.put 21 x, fun k hk => by rw [Array.getElem?_setIfInBounds, if_neg (by omega)]; exact h.h k hk,
    by rw [Array.getElem?_setIfInBounds, if_neg (by decide)]; exact h.c18,
    by rw [Array.getElem?_setIfInBounds, if_neg (by decide)]; exact h.c19,
    by rw [Array.getElem?_setIfInBounds, if_neg (by decide)]; exact h.c20,
    by rw [Array.getElem?_setIfInBounds, if_pos rfl, if_pos (Array.getElem?_eq_some_iff.1 h.c21).1],
    by rw [Array.getElem?_setIfInBounds, if_neg (by decide)]; exact h.c22,
    by rw [Array.getElem?_setIfInBounds, if_neg (by decide)]; exact h.c23⟩
theorem StC.put22 (h : StC w sb hd a b c d e f cs) (x : Value) : StC (w.setCell ⟨sb, 22, none⟩ x) sb hd a b c d x f (cs.setIfInBounds 22 x) :=
  ⟨h.blk.put 22 x, fun k hk => by rw [Array.getElem?_setIfInBounds, if_neg (by omega)]; exact h.h k hk,
    by rw [Array.getElem?_setIfInBounds, if_neg (by decide)]; exact h.c18,
    by rw [Array.getElem?_setIfInBounds, if_neg (by decide)]; exact h.c19,
    by rw [Array.getElem?_setIfInBounds, if_neg (by decide)]; exact h.c20,
    by rw [Array.getElem?_setIfInBounds, if_neg (by decide)]; exact h.c21,
    by rw [Array.getElem?_setIfInBounds, if_pos rfl, if_pos (Array.getElem?_eq_some_iff.1 h.c22).1],
    by rw [Array.getElem?_setIfInBounds, if_neg (by decide)]; exact h.c23⟩
theorem StC.put23 (h : StC w sb hd a b c d e f cs) (x : Value) : StC (w.setCell ⟨sb, 23, none⟩ x) sb hd a b c d e x (cs.setIfInBounds 23 x) :=
  ⟨h.blk.put 23 x, fun k hk => by rw [Array.getElem?_setIfInBounds, if_neg (by omega)]; exact h.h k hk,
    by rw [Array.getElem?_setIfInBounds, if_neg (by decide)]; exact h.c18,
    by rw [Array.getElem?_setIfInBounds, if_neg (by decide)]; exact h.c19,
    by rw [Array.getElem?_setIfInBounds, if_neg (by decide)]; exact h.c20,
    by rw [Array.getElem?_setIfInBounds, if_neg (by decide)]; exact h.c21,
    by rw [Array.getElem?_setIfInBounds, if_neg (by decide)]; exact h.c22,
    by rw [Array.getElem?_setIfInBounds, if_pos rfl, if_pos (Array.getElem?_eq_some_iff.1 h.c23).1]⟩
end
theorem lk_rep (m c : Nat) : lk (List.replicate m (0 : Int)) c = 0 := by
  simp only [lk, List.getD_eq_getElem?_getD, List.getElem?_replicate]
  split <;> rfl
theorem qerr_new {q : Nat} (h1 : 1 ≤ q) (h2 : q ≤ 64) : qerr (List.replicate (5 + q) 0) 3 4 5 q = 0 := by
  unfold qerr
  rw [List.length_replicate, if_neg (by omega), if_neg (fun e => e ⟨⟨by omega, by omega⟩, ⟨by omega, by omega⟩, by omega, by omega⟩), if_neg (by omega), if_neg]
  rintro ⟨j, _, hj, _⟩
  exact hj (lk_rep _ j)
theorem eerr_new {q : Nat} (h1 : 1 ≤ q) (h2 : q ≤ 64) : eerr (List.replicate (5 + q) 0) 2 (5 + (q : Int)) 0 = 0 := by
  unfold eerr
  rw [List.length_replicate, if_neg (by omega), if_neg (fun e => e ⟨⟨by omega, by omega⟩, by omega⟩), if_neg (by omega), if_neg]
  rintro (e | ⟨j, _, _, hj⟩)
  · exact e (lk_rep _ _)
  · exact hj (lk_rep _ j)
theorem ArN.keep {w w' : World} {ab n : Nat} {g : Int} {lb mb : Nat} (h : ArN w ab n g lb mb) (c : Ch (fun _ => False) w w') : ArN w' ab n g lb mb := by
  obtain ⟨g0, g1, g2, hf⟩ := h.f
  exact ⟨c.blk h.a id, (c.block mb (Array.getElem?_eq_some_iff.1 h.m).1 id).trans h.m, ⟨g0, g1, g2, hf.keep c (fun _ _ => id)⟩⟩
theorem ArN.far {w w' : World} {ab n : Nat} {g : Int} {lb mb sb : Nat} {cs : Array Value} (h : ArN w ab n g lb mb) (hs : Blk w sb 71 cs) (c : Ch (fun j => j = sb) w w') : ArN w' ab n g lb mb := by
  obtain ⟨g0, g1, g2, hf⟩ := h.f
  refine ⟨c.blk h.a (fun e => Blk.ne h.a hs (by decide) e), (c.block mb (Array.getElem?_eq_some_iff.1 h.m).1 (fun e => ?_)).trans h.m, ⟨g0, g1, g2, hf.keep c (fun k hk e => ?_)⟩⟩
  · have h1 := h.m
    rw [e] at h1
    have h2 : w.heap[sb]? = some (.cells cs 71 (0, 0)) := hs
    rw [h2] at h1
    cases h1
  · rcases hk with rfl | rfl | rfl | rfl
    · exact Blk.ne hf.l hs (by decide) e
    · exact Blk.ne hf.b0 hs (by decide) e
    · exact Blk.ne hf.b1 hs (by decide) e
    · exact Blk.ne hf.b2 hs (by decide) e
theorem below_ch {w w' : World} (h : Below w.heap.size w w') : Ch (fun _ => False) w w' := ⟨h.os, h.tape, h.output, h.size, fun k hk _ => h.block k hk⟩
noncomputable def stArr (v0 v1 v2 v3 v4 v5 v6 v7 v8 v9 v10 v11 v12 v13 v14 v15 v16 v17 : Value) : Array Value := (((((((((((((((((((Try.zeroCells71).setIfInBounds 0 (v0)).setIfInBounds 1 (v1)).setIfInBounds 2 (v2)).setIfInBounds 3 (v3)).setIfInBounds 4 (v4)).setIfInBounds 5 (v5)).setIfInBounds 6 (v6)).setIfInBounds 7 (v7)).setIfInBounds 8 (v8)).setIfInBounds 9 (v9)).setIfInBounds 10 (v10)).setIfInBounds 11 (v11)).setIfInBounds 12 (v12)).setIfInBounds 13 (v13)).setIfInBounds 14 (v14)).setIfInBounds 15 (v15)).setIfInBounds 16 (v16)).setIfInBounds 17 (v17))
theorem st_size : (Try.zeroCells71).size = 184 := by kernel_rfl
theorem st_z18 : (Try.zeroCells71)[18]? = some (.pointer none) := by kernel_rfl
theorem st_z19 : (Try.zeroCells71)[19]? = some (.pointer none) := by kernel_rfl
theorem st_z20 : (Try.zeroCells71)[20]? = some (.pointer none) := by kernel_rfl
theorem st_z21 : (Try.zeroCells71)[21]? = some (.pointer none) := by kernel_rfl
theorem st_z22 : (Try.zeroCells71)[22]? = some (.slice none 0 0) := by kernel_rfl
theorem st_z23 : (Try.zeroCells71)[23]? = some (.slice none 0 0) := by kernel_rfl
set_option maxHeartbeats 4000000 in
theorem st_hd (v0 v1 v2 v3 v4 v5 v6 v7 v8 v9 v10 v11 v12 v13 v14 v15 v16 v17 : Value) : ∀ k, k < 18 → (stArr v0 v1 v2 v3 v4 v5 v6 v7 v8 v9 v10 v11 v12 v13 v14 v15 v16 v17)[k]? = [v0, v1, v2, v3, v4, v5, v6, v7, v8, v9, v10, v11, v12, v13, v14, v15, v16, v17][k]? := by
  intro k hk
  match k, hk with
  | 0, _ => simp [stArr, Array.getElem?_setIfInBounds, st_size]
  | 1, _ => simp [stArr, Array.getElem?_setIfInBounds, st_size]
  | 2, _ => simp [stArr, Array.getElem?_setIfInBounds, st_size]
  | 3, _ => simp [stArr, Array.getElem?_setIfInBounds, st_size]
  | 4, _ => simp [stArr, Array.getElem?_setIfInBounds, st_size]
  | 5, _ => simp [stArr, Array.getElem?_setIfInBounds, st_size]
  | 6, _ => simp [stArr, Array.getElem?_setIfInBounds, st_size]
  | 7, _ => simp [stArr, Array.getElem?_setIfInBounds, st_size]
  | 8, _ => simp [stArr, Array.getElem?_setIfInBounds, st_size]
  | 9, _ => simp [stArr, Array.getElem?_setIfInBounds, st_size]
  | 10, _ => simp [stArr, Array.getElem?_setIfInBounds, st_size]
  | 11, _ => simp [stArr, Array.getElem?_setIfInBounds, st_size]
  | 12, _ => simp [stArr, Array.getElem?_setIfInBounds, st_size]
  | 13, _ => simp [stArr, Array.getElem?_setIfInBounds, st_size]
  | 14, _ => simp [stArr, Array.getElem?_setIfInBounds, st_size]
  | 15, _ => simp [stArr, Array.getElem?_setIfInBounds, st_size]
  | 16, _ => simp [stArr, Array.getElem?_setIfInBounds, st_size]
  | 17, _ => simp [stArr, Array.getElem?_setIfInBounds, st_size]
  | m + 18, h => exact absurd h (by omega)
theorem st_new (sb : Nat) (w : World) (v0 v1 v2 v3 v4 v5 v6 v7 v8 v9 v10 v11 v12 v13 v14 v15 v16 v17 : Value) (h : Blk w sb 71 (stArr v0 v1 v2 v3 v4 v5 v6 v7 v8 v9 v10 v11 v12 v13 v14 v15 v16 v17)) : StC w sb [v0, v1, v2, v3, v4, v5, v6, v7, v8, v9, v10, v11, v12, v13, v14, v15, v16, v17] (.pointer none) (.pointer none) (.pointer none) (.pointer none) (.slice none 0 0) (.slice none 0 0) (stArr v0 v1 v2 v3 v4 v5 v6 v7 v8 v9 v10 v11 v12 v13 v14 v15 v16 v17) :=
  ⟨h, st_hd v0 v1 v2 v3 v4 v5 v6 v7 v8 v9 v10 v11 v12 v13 v14 v15 v16 v17, by rw [← st_z18]; simp [stArr, Array.getElem?_setIfInBounds], by rw [← st_z19]; simp [stArr, Array.getElem?_setIfInBounds], by rw [← st_z20]; simp [stArr, Array.getElem?_setIfInBounds], by rw [← st_z21]; simp [stArr, Array.getElem?_setIfInBounds], by rw [← st_z22]; simp [stArr, Array.getElem?_setIfInBounds], by rw [← st_z23]; simp [stArr, Array.getElem?_setIfInBounds]⟩
/-- A store without clients was made. -/
def SnOut (n q : Nat) (ge re ba fe : Int) (w : World) (e : Ending) (w' : World) : Prop := ∃ sb p cb ab lb mb qb eb pb rvb cs, e = .returned (.tuple #[.pointer (some ⟨sb, 0, none⟩), .int .i64 0]) ∧ StC w' sb [.int .i64 (n : Int), .int .u64 ge, .int .i64 0, .int .i64 re, .int .i64 (q : Int), .int .i64 ba, .int .i64 fe, .string ⟨#[]⟩, .int .i64 0, .int .i64 1, .int .i64 2, .int .i64 3, .int .i64 4, .int .i64 5, .int .i64 (5 + (q : Int)), .int .i64 (5 + (q : Int)), .int .i64 (5 + (q : Int)), .int .i64 (5 + (q : Int))] (.pointer (some ⟨p, 0, none⟩)) (.pointer (some ⟨ab, 0, none⟩)) (.pointer (some ⟨qb, 0, none⟩)) (.pointer (some ⟨eb, 0, none⟩)) (.slice none 0 0) (.slice (some ⟨rvb, 0, none⟩) 1 1) cs ∧ Bank w.heap.size w' p cb (.slice none 0 0) (List.replicate (5 + q) 0) [] ∧ ArN w' ab n ge lb mb ∧ Blk w' qb 112 #[.pointer (some ⟨p, 0, none⟩), .int .i64 3, .int .i64 4, .int .i64 5, .int .u64 (q : Int), .pointer none] ∧ Blk w' eb 118 #[.pointer (some ⟨p, 0, none⟩), .int .i64 2, .int .i64 (5 + (q : Int)), .int .i64 0, .slice (some ⟨pb, 0, none⟩) 0 0, .pointer none] ∧ Blk w' pb 225 (madeX #[.pointer none] 0) ∧ Blk w' rvb 38 #[.int .i64 0, .int .u64 0, .int .i64 0, .int .i64 0, .int .i64 0, .int .i64 0, .slice none 0 0, .slice none 0 0] ∧ Ch (fun _ => False) w w' ∧ w.heap.size ≤ sb ∧ w.heap.size ≤ rvb
set_option maxRecDepth 100000 in
set_option maxHeartbeats 4000000 in
theorem snew0 (n q : Nat) (ge re ba fe : Int) (hok : ckE ⟨n, ge, 0, re, q, ba, fe, ⟨#[]⟩⟩ = 0) (w : World) : Calls Try.prog 4 #[(Cf.mk n ge 0 re q ba fe ⟨#[]⟩).v] w (SnOut n q ge re ba fe w) := by
  obtain ⟨⟨n1, n2⟩, ⟨g1, g2⟩, -, ⟨r1, r2⟩, ⟨q1, q2⟩, ⟨b1, b2⟩, ⟨f1, f2⟩⟩ := ck_nums hok
  simp only at n1 n2 g1 g2 r1 r2 q1 q2 b1 b2 f1 f2
  simp only [Cf.v]
  go_enter Try.func4, Try.ntmps4
  go_wp2_with fail
  refine calls_world fun W1 hW1 => ?_
  have C1 := hid (show Ch (fun _ => False) w W1 from by rw [hW1]; exact (Ch.refl _ w).alloc _)
  have F1 := hid (show Blk W1 w.heap.size 29 #[.int .i64 (n : Int), .int .u64 ge, .int .i64 0, .int .i64 re, .int .i64 (q : Int), .int .i64 ba, .int .i64 fe, .string ⟨#[]⟩] from by rw [hW1]; exact Blk.new w _ _)
  clear hW1
  refine (place_ok ⟨n, ge, 0, re, q, ba, fe, ⟨#[]⟩⟩ W1 (by show (ByteArray.mk #[]).size ≤ 1000000; decide) hok).mono ?_
  rintro e w2 ⟨rfl, hbel⟩
  have hc := below_ch hbel
  have C2 := hid (C1.out.trans hc (fun _ _ h => h))
  have F2 := hid (hc.blk F1.out id)
  have l2 := F2.out.lt
  clear hc hbel
  rw [show layV (Cf.l6 ⟨n, ge, 0, re, q, ba, fe, ⟨#[]⟩⟩) (Cf.l7 ⟨n, ge, 0, re, q, ba, fe, ⟨#[]⟩⟩) (Cf.l8 ⟨n, ge, 0, re, q, ba, fe, ⟨#[]⟩⟩) (Cf.l9 ⟨n, ge, 0, re, q, ba, fe, ⟨#[]⟩⟩) = .agg #[.int .i64 0, .int .i64 1, .int .i64 2, .int .i64 3, .int .i64 4, .int .i64 5, .int .i64 (5 + (q : Int)), .int .i64 (5 + (q : Int)), .int .i64 (5 + (q : Int)), .int .i64 (5 + (q : Int))] by simp [layV, Cf.l6, Cf.l7, Cf.l8, Cf.l9]]
  have r0 : w2.cell? ⟨w.heap.size, 0, none⟩ = some (.int .i64 (n : Int)) := F2.out.cell 0
  have r1 : w2.cell? ⟨w.heap.size, 1, none⟩ = some (.int .u64 ge) := F2.out.cell 1
  have r2 : w2.cell? ⟨w.heap.size, 2, none⟩ = some (.int .i64 0) := F2.out.cell 2
  have r3 : w2.cell? ⟨w.heap.size, 3, none⟩ = some (.int .i64 re) := F2.out.cell 3
  have r4 : w2.cell? ⟨w.heap.size, 4, none⟩ = some (.int .i64 (q : Int)) := F2.out.cell 4
  have r5 : w2.cell? ⟨w.heap.size, 5, none⟩ = some (.int .i64 ba) := F2.out.cell 5
  have r6 : w2.cell? ⟨w.heap.size, 6, none⟩ = some (.int .i64 fe) := F2.out.cell 6
  have r7 : w2.cell? ⟨w.heap.size, 7, none⟩ = some (.string ⟨#[]⟩) := F2.out.cell 7
  go_wp2_with fail
  obtain ⟨BIG, hBIG⟩ : ∃ A, A = (((((((((((((((((((Try.zeroCells71).setIfInBounds 0 (.int .i64 (n : Int))).setIfInBounds 1 (.int .u64 ge)).setIfInBounds 2 (.int .i64 0)).setIfInBounds 3 (.int .i64 re)).setIfInBounds 4 (.int .i64 (q : Int))).setIfInBounds 5 (.int .i64 ba)).setIfInBounds 6 (.int .i64 fe)).setIfInBounds 7 (.string ⟨#[]⟩)).setIfInBounds 8 (.int .i64 0)).setIfInBounds 9 (.int .i64 1)).setIfInBounds 10 (.int .i64 2)).setIfInBounds 11 (.int .i64 3)).setIfInBounds 12 (.int .i64 4)).setIfInBounds 13 (.int .i64 5)).setIfInBounds 14 (.int .i64 (5 + (q : Int)))).setIfInBounds 15 (.int .i64 (5 + (q : Int)))).setIfInBounds 16 (.int .i64 (5 + (q : Int)))).setIfInBounds 17 (.int .i64 (5 + (q : Int)))) := ⟨_, rfl⟩
  rw [← hBIG]
  refine calls_world fun W3 hW3 => ?_
  have C3 := hid (show Ch (fun _ => False) w W3 from by rw [hW3]; exact (C2.out.alloc _).alloc _)
  have F3 := hid (show Blk W3 w.heap.size 29 #[.int .i64 (n : Int), .int .u64 ge, .int .i64 0, .int .i64 re, .int .i64 (q : Int), .int .i64 ba, .int .i64 fe, .string ⟨#[]⟩] from by rw [hW3]; exact (F2.out.alloc _).alloc _)
  obtain ⟨lb0, hlb0⟩ : ∃ x, x = w2.heap.size := ⟨_, rfl⟩
  have L3 := hid (show Blk W3 lb0 54 #[.int .i64 0, .int .i64 1, .int .i64 2, .int .i64 3, .int .i64 4, .int .i64 5, .int .i64 (5 + (q : Int)), .int .i64 (5 + (q : Int)), .int .i64 (5 + (q : Int)), .int .i64 (5 + (q : Int))] from by rw [hW3, hlb0]; exact (Blk.new w2 _ _).alloc _)
  obtain ⟨sb, hsb⟩ : ∃ x, x = w2.heap.size + 1 := ⟨_, rfl⟩
  have S3 := hid (show StC W3 sb [.int .i64 (n : Int), .int .u64 ge, .int .i64 0, .int .i64 re, .int .i64 (q : Int), .int .i64 ba, .int .i64 fe, .string ⟨#[]⟩, .int .i64 0, .int .i64 1, .int .i64 2, .int .i64 3, .int .i64 4, .int .i64 5, .int .i64 (5 + (q : Int)), .int .i64 (5 + (q : Int)), .int .i64 (5 + (q : Int)), .int .i64 (5 + (q : Int))] (.pointer none) (.pointer none) (.pointer none) (.pointer none) (.slice none 0 0) (.slice none 0 0) BIG from by
    rw [hBIG]
    refine st_new sb W3 (.int .i64 (n : Int)) (.int .u64 ge) (.int .i64 0) (.int .i64 re) (.int .i64 (q : Int)) (.int .i64 ba) (.int .i64 fe) (.string ⟨#[]⟩) (.int .i64 0) (.int .i64 1) (.int .i64 2) (.int .i64 3) (.int .i64 4) (.int .i64 5) (.int .i64 (5 + (q : Int))) (.int .i64 (5 + (q : Int))) (.int .i64 (5 + (q : Int))) (.int .i64 (5 + (q : Int))) ?_
    rw [hsb, hW3, hBIG]
    have := Blk.new (w2.alloc (.cells #[.int .i64 0, .int .i64 1, .int .i64 2, .int .i64 3, .int .i64 4, .int .i64 5, .int .i64 (5 + (q : Int)), .int .i64 (5 + (q : Int)), .int .i64 (5 + (q : Int)), .int .i64 (5 + (q : Int))] 54)) 71 (((((((((((((((((((Try.zeroCells71).setIfInBounds 0 (.int .i64 (n : Int))).setIfInBounds 1 (.int .u64 ge)).setIfInBounds 2 (.int .i64 0)).setIfInBounds 3 (.int .i64 re)).setIfInBounds 4 (.int .i64 (q : Int))).setIfInBounds 5 (.int .i64 ba)).setIfInBounds 6 (.int .i64 fe)).setIfInBounds 7 (.string ⟨#[]⟩)).setIfInBounds 8 (.int .i64 0)).setIfInBounds 9 (.int .i64 1)).setIfInBounds 10 (.int .i64 2)).setIfInBounds 11 (.int .i64 3)).setIfInBounds 12 (.int .i64 4)).setIfInBounds 13 (.int .i64 5)).setIfInBounds 14 (.int .i64 (5 + (q : Int)))).setIfInBounds 15 (.int .i64 (5 + (q : Int)))).setIfInBounds 16 (.int .i64 (5 + (q : Int)))).setIfInBounds 17 (.int .i64 (5 + (q : Int))))
    simpa [stArr] using this)
  have zs : w.heap.size < sb := by have := C2.out.size; omega
  have nl1 : lb0 ≠ sb := by omega
  rw [← hsb, ← hlb0]
  clear hW3 hBIG hsb hlb0
  have S3 := hid (⟨_, S3.out⟩ : ∃ cs, StC W3 sb [.int .i64 (n : Int), .int .u64 ge, .int .i64 0, .int .i64 re, .int .i64 (q : Int), .int .i64 ba, .int .i64 fe, .string ⟨#[]⟩, .int .i64 0, .int .i64 1, .int .i64 2, .int .i64 3, .int .i64 4, .int .i64 5, .int .i64 (5 + (q : Int)), .int .i64 (5 + (q : Int)), .int .i64 (5 + (q : Int)), .int .i64 (5 + (q : Int))] (.pointer none) (.pointer none) (.pointer none) (.pointer none) (.slice none 0 0) (.slice none 0 0) cs)
  have nf1 : w.heap.size ≠ sb := Nat.ne_of_lt zs
  have nf2 : sb ≠ w.heap.size := Ne.symm nf1
  have nl2 : sb ≠ lb0 := Ne.symm nl1
  have hcn := new_ok w.heap.size (5 + q) (by omega) (by omega) W3 C3.out.size
  have e5 : ((5 + q : Nat) : Int) = 5 + (q : Int) := by push_cast; rfl
  rw [e5] at hcn
  refine hcn.mono ?_
  rintro e w4 ⟨p, cb, rfl, hB, hc, _, _⟩
  clear hcn
  have F4 := hid (show Blk w4 w.heap.size 29 #[.int .i64 (n : Int), .int .u64 ge, .int .i64 0, .int .i64 re, .int .i64 (q : Int), .int .i64 ba, .int .i64 fe, .string ⟨#[]⟩] from hc.blk F3.out id)
  have L4 := hid (show Blk w4 lb0 54 #[.int .i64 0, .int .i64 1, .int .i64 2, .int .i64 3, .int .i64 4, .int .i64 5, .int .i64 (5 + (q : Int)), .int .i64 (5 + (q : Int)), .int .i64 (5 + (q : Int)), .int .i64 (5 + (q : Int))] from hc.blk L3.out id)
  have S4 := hid (show ∃ cs, StC w4 sb [.int .i64 (n : Int), .int .u64 ge, .int .i64 0, .int .i64 re, .int .i64 (q : Int), .int .i64 ba, .int .i64 fe, .string ⟨#[]⟩, .int .i64 0, .int .i64 1, .int .i64 2, .int .i64 3, .int .i64 4, .int .i64 5, .int .i64 (5 + (q : Int)), .int .i64 (5 + (q : Int)), .int .i64 (5 + (q : Int)), .int .i64 (5 + (q : Int))] (.pointer none) (.pointer none) (.pointer none) (.pointer none) (.slice none 0 0) (.slice none 0 0) cs from by obtain ⟨cs, h⟩ := S3.out; exact ⟨cs, h.keep hc id⟩)
  have C4 := hid (C3.out.trans hc (fun _ _ h => h))
  have B4 := hid hB
  clear hB hc
  have xc0 : w4.cell? ⟨w.heap.size, 0, none⟩ = some (.int .i64 (n : Int)) := F4.out.cell 0
  have xc1 : w4.cell? ⟨w.heap.size, 1, none⟩ = some (.int .u64 ge) := F4.out.cell 1
  have xs18 : w4.cell? ⟨sb, 18, none⟩ = some (.pointer none) := by obtain ⟨cs, h⟩ := S4.out; exact (h.blk.cell 18).trans h.c18
  have xf18 : w4.frozen? ⟨sb, 18, none⟩ = false := by obtain ⟨cs, h⟩ := S4.out; exact h.blk.free 18
  go_wp2_with fail
  refine calls_world fun W5 hW5 => ?_
  clear xc0 xc1 xs18 xf18
  have ch5 : Ch (fun j => j = sb) w4 W5 := by rw [hW5]; exact (Ch.refl (fun j => j = sb) w4).set (fun _ => rfl) _
  have hs4 : ∃ cs, Blk w4 sb 71 cs := by obtain ⟨cs, h⟩ := S4.out; exact ⟨cs, h.blk⟩
  obtain ⟨cs4, hb4⟩ := hs4
  have F5 := hid (show Blk W5 w.heap.size 29 #[.int .i64 (n : Int), .int .u64 ge, .int .i64 0, .int .i64 re, .int .i64 (q : Int), .int .i64 ba, .int .i64 fe, .string ⟨#[]⟩] from ch5.blk F4.out (fun e => Blk.ne F4.out hb4 (by decide) e))
  have L5 := hid (show Blk W5 lb0 54 #[.int .i64 0, .int .i64 1, .int .i64 2, .int .i64 3, .int .i64 4, .int .i64 5, .int .i64 (5 + (q : Int)), .int .i64 (5 + (q : Int)), .int .i64 (5 + (q : Int)), .int .i64 (5 + (q : Int))] from ch5.blk L4.out (fun e => Blk.ne L4.out hb4 (by decide) e))
  have S5 := hid (show ∃ cs, StC W5 sb [.int .i64 (n : Int), .int .u64 ge, .int .i64 0, .int .i64 re, .int .i64 (q : Int), .int .i64 ba, .int .i64 fe, .string ⟨#[]⟩, .int .i64 0, .int .i64 1, .int .i64 2, .int .i64 3, .int .i64 4, .int .i64 5, .int .i64 (5 + (q : Int)), .int .i64 (5 + (q : Int)), .int .i64 (5 + (q : Int)), .int .i64 (5 + (q : Int))] (.pointer (some ⟨p, 0, none⟩)) (.pointer none) (.pointer none) (.pointer none) (.slice none 0 0) (.slice none 0 0) cs from by obtain ⟨cs, h⟩ := S4.out; exact ⟨_, by rw [hW5]; exact h.put18 _⟩)
  have B5 := hid (show Bank w.heap.size W5 p cb (.slice none 0 0) (List.replicate (5 + q) 0) [] from B4.out.ch ch5 (fun e => Blk.ne B4.out.hp hb4 (by decide) e) (fun e => Blk.ne B4.out.hc hb4 (by decide) e) (fun k hk => by simp [Value.ownBlock] at hk))
  have C5 := hid (C4.out.trans ch5 (fun i hi e => absurd hi (by omega)))
  clear ch5 hb4
  clear hW5
  refine (anew_ok n ge (by omega) (by omega) g1 g2 W5).mono ?_
  rintro e w6 ⟨ab, lb, mb, rfl, hA, hc, _⟩
  have F6 := hid (show Blk w6 w.heap.size 29 #[.int .i64 (n : Int), .int .u64 ge, .int .i64 0, .int .i64 re, .int .i64 (q : Int), .int .i64 ba, .int .i64 fe, .string ⟨#[]⟩] from hc.blk F5.out id)
  have L6 := hid (show Blk w6 lb0 54 #[.int .i64 0, .int .i64 1, .int .i64 2, .int .i64 3, .int .i64 4, .int .i64 5, .int .i64 (5 + (q : Int)), .int .i64 (5 + (q : Int)), .int .i64 (5 + (q : Int)), .int .i64 (5 + (q : Int))] from hc.blk L5.out id)
  have S6 := hid (show ∃ cs, StC w6 sb [.int .i64 (n : Int), .int .u64 ge, .int .i64 0, .int .i64 re, .int .i64 (q : Int), .int .i64 ba, .int .i64 fe, .string ⟨#[]⟩, .int .i64 0, .int .i64 1, .int .i64 2, .int .i64 3, .int .i64 4, .int .i64 5, .int .i64 (5 + (q : Int)), .int .i64 (5 + (q : Int)), .int .i64 (5 + (q : Int)), .int .i64 (5 + (q : Int))] (.pointer (some ⟨p, 0, none⟩)) (.pointer none) (.pointer none) (.pointer none) (.slice none 0 0) (.slice none 0 0) cs from by obtain ⟨cs, h⟩ := S5.out; exact ⟨cs, h.keep hc id⟩)
  have B6 := hid (show Bank w.heap.size w6 p cb (.slice none 0 0) (List.replicate (5 + q) 0) [] from B5.out.ch hc id id (fun _ _ => id))
  have C6 := hid (C5.out.trans hc (fun _ _ h => h))
  have A6 := hid hA
  clear hA hc
  have xs19 : w6.cell? ⟨sb, 19, none⟩ = some (.pointer none) := by obtain ⟨cs, h⟩ := S6.out; exact (h.blk.cell 19).trans h.c19
  have xf19 : w6.frozen? ⟨sb, 19, none⟩ = false := by obtain ⟨cs, h⟩ := S6.out; exact h.blk.free 19
  go_wp2_with fail
  refine at_world fun W7 hW7 => ?_
  clear xs19 xf19
  have ch7 : Ch (fun j => j = sb) w6 W7 := by rw [hW7]; exact (Ch.refl (fun j => j = sb) w6).set (fun _ => rfl) _
  have hs6 : ∃ cs, Blk w6 sb 71 cs := by obtain ⟨cs, h⟩ := S6.out; exact ⟨cs, h.blk⟩
  obtain ⟨cs6, hb6⟩ := hs6
  have F7 := hid (show Blk W7 w.heap.size 29 #[.int .i64 (n : Int), .int .u64 ge, .int .i64 0, .int .i64 re, .int .i64 (q : Int), .int .i64 ba, .int .i64 fe, .string ⟨#[]⟩] from ch7.blk F6.out (fun e => Blk.ne F6.out hb6 (by decide) e))
  have L7 := hid (show Blk W7 lb0 54 #[.int .i64 0, .int .i64 1, .int .i64 2, .int .i64 3, .int .i64 4, .int .i64 5, .int .i64 (5 + (q : Int)), .int .i64 (5 + (q : Int)), .int .i64 (5 + (q : Int)), .int .i64 (5 + (q : Int))] from ch7.blk L6.out (fun e => Blk.ne L6.out hb6 (by decide) e))
  have S7 := hid (show ∃ cs, StC W7 sb [.int .i64 (n : Int), .int .u64 ge, .int .i64 0, .int .i64 re, .int .i64 (q : Int), .int .i64 ba, .int .i64 fe, .string ⟨#[]⟩, .int .i64 0, .int .i64 1, .int .i64 2, .int .i64 3, .int .i64 4, .int .i64 5, .int .i64 (5 + (q : Int)), .int .i64 (5 + (q : Int)), .int .i64 (5 + (q : Int)), .int .i64 (5 + (q : Int))] (.pointer (some ⟨p, 0, none⟩)) (.pointer (some ⟨ab, 0, none⟩)) (.pointer none) (.pointer none) (.slice none 0 0) (.slice none 0 0) cs from by obtain ⟨cs, h⟩ := S6.out; exact ⟨_, by rw [hW7]; exact h.put19 _⟩)
  have B7 := hid (show Bank w.heap.size W7 p cb (.slice none 0 0) (List.replicate (5 + q) 0) [] from B6.out.ch ch7 (fun e => Blk.ne B6.out.hp hb6 (by decide) e) (fun e => Blk.ne B6.out.hc hb6 (by decide) e) (fun k hk => by simp [Value.ownBlock] at hk))
  have A7 := hid (show ArN W7 ab n ge lb mb from A6.out.far hb6 ch7)
  have C7 := hid (C6.out.trans ch7 (fun i hi e => absurd hi (by omega)))
  clear ch7 hb6
  clear hW7
  have xc7 : W7.cell? ⟨w.heap.size, 7, none⟩ = some (.string ⟨#[]⟩) := F7.out.cell 7
  have xs19 : W7.cell? ⟨sb, 19, none⟩ = some (.pointer (some ⟨ab, 0, none⟩)) := by obtain ⟨cs, h⟩ := S7.out; exact (h.blk.cell 19).trans h.c19
  obtain ⟨g0, g1', xs, hst⟩ := A7.out.st
  have HST := hid hst
  clear hst
  obtain ⟨SS, hSS⟩ : ∃ S : Nat → Prop, ∀ k, S k ↔ k < W7.heap.size := ⟨_, fun _ => Iff.rfl⟩
  have HS := hid hSS
  have hS1 : Mix.Has SS sb := (hSS _).2 (by obtain ⟨cs, h⟩ := S7.out; exact h.blk.lt)
  have hS2 : Mix.Has SS w.heap.size := (hSS _).2 F7.out.lt
  clear hSS
  have CC := hid (Ch.refl (fun _ => False) W7)
  refine Mix.wp_region_XJ SS (fun i => ([1, 1, 1, 4, 1, 4, 3, 1, 1, 1, 3, 2, 0] : List Nat).getD i 0) (fun a0 a' w' => ∃ rb, a' = ((((((((((((a0.put (some 50) (.pointer (some ⟨sb, 0, none⟩))).put (some 51) (.pointer (some ⟨sb, 0, none⟩))).put (some 52) (.pointer (some ⟨sb, 19, none⟩))).put (some 53) (.pointer (some ⟨ab, 0, none⟩))).put (some 54) (.pointer (some ⟨w.heap.size, 7, none⟩))).put (some 55) (.string ⟨#[]⟩)).put (some 56) (.tuple #[(.agg #[.int .u64 0, .int .i64 0, .int .i64 0, .int .i64 0, .int .i64 0]), .int .i64 0])).put (some 49) (.tuple #[(.agg #[.int .u64 0, .int .i64 0, .int .i64 0, .int .i64 0, .int .i64 0]), .int .i64 0])).put (some 57) (.agg #[.int .u64 0, .int .i64 0, .int .i64 0, .int .i64 0, .int .i64 0])).put (some 58) (.int .i64 0)).put (some 7) (.pointer (some ⟨rb, 0, none⟩))).put (some 5) (.int .i64 0)) ∧ Blk w' rb 34 #[.int .u64 0, .int .i64 0, .int .i64 0, .int .i64 0, .int .i64 0] ∧ Ch (fun _ => False) W7 w') (by kernel_rfl) ?_ ?_
  · refine Mix.wpX_prefix (fuel := 7) (by kernel_rfl) [0, 1, 2, 3, 4, 5] _ _ _ (by kernel_rfl) ?_
    repeat (first | (refine Mix.mix_p (by simp only [List.getElem?_toArray, List.getElem?_cons_zero, List.getElem?_cons_succ]; exact rfl) rfl rfl ?_; go_big_quiet_step (fail); refine wpQuiet_nil ?_) | (refine Mix.mix_s (by simp only [List.getElem?_toArray, List.getElem?_cons_zero, List.getElem?_cons_succ]; exact rfl) rfl rfl ?_; go_big_quiet_step (fail); refine wpQuiet_nil ?_))
    intro m0
    refine Mix.wpX_world fun V0 hV0 => ?_
    have C0 := hid (show Ch (fun _ => False) W7 V0 from hV0 ▸ CC.out.drewN m0)
    clear hV0 xc7 xs19
    refine Mix.wpX_two 6 10 (by kernel_rfl) ?_ ?_
    · refine Mix.mix_a (by simp only [List.getElem?_toArray, List.getElem?_cons_zero, List.getElem?_cons_succ]; exact rfl) rfl fun Y1 hY1 => ?_
      obtain ⟨y1, rfl⟩ := hY1
      go_wp2_with fail
      refine (rnew0 ab n lb mb g0 g1' xs (by omega) _ (HST.out.keep ((C0.out).drewN y1))).mono ?_
      rintro e V1 ⟨rfl, hc⟩
      have D1 := hid ((C0.out.drewN y1).trans hc (fun _ _ h => h))
      have DK := hid (((Ch.refl (fun _ => False) V0).drewN y1).trans hc (fun _ _ h => h))
      clear hc
      go_wp2_with fail
      refine ⟨fun j' hj' => DK.out.block j' (Nat.lt_of_lt_of_le ((HS.out j').1 hj') C0.out.size) id, ?_⟩
      intro m1
      refine Mix.wpX_world fun V2 hV2 => ?_
      have D2 := hid (show Ch (fun _ => False) W7 V2 from hV2 ▸ D1.out.drewN m1)
      clear hV2
      refine Mix.wpX_prefix (fuel := 0) (by kernel_rfl) [7, 8, 9, 10, 11, 12] _ _ _ (by kernel_rfl) ?_
      repeat (refine Mix.mix_p (by simp only [List.getElem?_toArray, List.getElem?_cons_zero, List.getElem?_cons_succ]; exact rfl) rfl rfl ?_; go_big_quiet_step (fail); refine wpQuiet_nil ?_)
      refine Mix.mix_a (by simp only [List.getElem?_toArray, List.getElem?_cons_zero, List.getElem?_cons_succ]; exact rfl) rfl fun Y2 hY2 => ?_
      obtain ⟨y2, rfl⟩ := hY2
      go_wp2_with fail
      have zz1 := D2.out.size
      refine ⟨fun j' hj' => (((Ch.refl (fun _ => False) V2).drewN y2).alloc _).block j' (Nat.lt_of_lt_of_le ((HS.out j').1 hj') D2.out.size) id, ?_⟩
      refine Mix.mix_world fun V3 hV3 => ?_
      have D3 := hid (show Ch (fun _ => False) W7 V3 from by rw [hV3]; exact (D2.out.drewN y2).alloc _)
      have G3 := hid (show Blk V3 V2.heap.size 34 #[.int .u64 0, .int .i64 0, .int .i64 0, .int .i64 0, .int .i64 0] from by rw [hV3]; exact Blk.new (V2.drewN y2) 34 #[.int .u64 0, .int .i64 0, .int .i64 0, .int .i64 0, .int .i64 0])
      clear hV3
      have R1 := G3.out
      have rr0 : V3.cell? ⟨V2.heap.size, 0, none⟩ = some (.int .u64 0) := R1.cell 0
      have rr1 : V3.cell? ⟨V2.heap.size, 1, none⟩ = some (.int .i64 0) := R1.cell 1
      have rr2 : V3.cell? ⟨V2.heap.size, 2, none⟩ = some (.int .i64 0) := R1.cell 2
      have rr3 : V3.cell? ⟨V2.heap.size, 3, none⟩ = some (.int .i64 0) := R1.cell 3
      have rr4 : V3.cell? ⟨V2.heap.size, 4, none⟩ = some (.int .i64 0) := R1.cell 4
      have rf0 := R1.free 0
      have rf1 := R1.free 1
      have rf2 := R1.free 2
      have rf3 := R1.free 3
      have rf4 := R1.free 4
      refine Mix.mix_e (by simp only [List.getElem?_toArray, List.getElem?_cons_zero, List.getElem?_cons_succ]; exact rfl) rfl fun X1 hX1 => ?_
      obtain ⟨o1, rfl⟩ := hX1
      go_wp2_with fail
      (refine Mix.mix_q (by simp only [List.getElem?_toArray, List.getElem?_cons_zero, List.getElem?_cons_succ]; exact rfl) rfl ?_; go_big_quiet_step (fail); refine wpQuiet_nil ?_)
      intro m1
      refine Mix.wpX_done (by kernel_rfl) ?_
      intro u1
      refine ⟨V2.heap.size, ?_, ?_, ?_⟩
      · simp only [Act.put, List.setIfInBounds_toArray, List.set_cons_succ, List.set_cons_zero]
      · exact (((((((((R1.drewN o1).put 0 _).put 1 _).put 2 _).put 3 _).put 4 _)).drewN m1).drewN u1)
      · exact (((((((((D3.out.drewN o1).set (fun ho => absurd ho (by omega)) _).set (fun ho => absurd ho (by omega)) _).set (fun ho => absurd ho (by omega)) _).set (fun ho => absurd ho (by omega)) _).set (fun ho => absurd ho (by omega)) _)).drewN m1).drewN u1)
    · refine Mix.mix_a (by simp only [List.getElem?_toArray, List.getElem?_cons_zero, List.getElem?_cons_succ]; exact rfl) rfl fun Y1 hY1 => ?_
      obtain ⟨y1, rfl⟩ := hY1
      go_wp2_with fail
      refine ⟨fun j' hj' => (((Ch.refl (fun _ => False) V0).drewN y1).alloc _).block j' (Nat.lt_of_lt_of_le ((HS.out j').1 hj') C0.out.size) id, ?_⟩
      intro m1
      refine Mix.wpX_world fun V2 hV2 => ?_
      have D2 := hid (show Ch (fun _ => False) W7 V2 from by rw [hV2]; exact ((C0.out.drewN y1).alloc _).drewN m1)
      have G2 := hid (show Blk V2 V0.heap.size 34 #[.int .u64 0, .int .i64 0, .int .i64 0, .int .i64 0, .int .i64 0] from by rw [hV2]; exact (Blk.new (V0.drewN y1) 34 #[.int .u64 0, .int .i64 0, .int .i64 0, .int .i64 0, .int .i64 0]).drewN m1)
      have zz1 : W7.heap.size ≤ V0.heap.size := C0.out.size
      clear hV2
      refine Mix.wpX_prefix (fuel := 0) (by kernel_rfl) [6, 7, 8, 9, 11, 12] _ _ _ (by kernel_rfl) ?_
      refine Mix.mix_a (by simp only [List.getElem?_toArray, List.getElem?_cons_zero, List.getElem?_cons_succ]; exact rfl) rfl fun Y2 hY2 => ?_
      obtain ⟨y2, rfl⟩ := hY2
      go_wp2_with fail
      refine (rnew0 ab n lb mb g0 g1' xs (by omega) _ (HST.out.keep ((D2.out).drewN y2))).mono ?_
      rintro e V3 ⟨rfl, hc⟩
      have D3 := hid ((D2.out.drewN y2).trans hc (fun _ _ h => h))
      have DK := hid (((Ch.refl (fun _ => False) V2).drewN y2).trans hc (fun _ _ h => h))
      have G3 := hid (hc.blk (G2.out.drewN y2) id)
      clear hc
      go_wp2_with fail
      refine ⟨fun j' hj' => DK.out.block j' (Nat.lt_of_lt_of_le ((HS.out j').1 hj') D2.out.size) id, ?_⟩
      repeat (refine Mix.mix_p (by simp only [List.getElem?_toArray, List.getElem?_cons_zero, List.getElem?_cons_succ]; exact rfl) rfl rfl ?_; go_big_quiet_step (fail); refine wpQuiet_nil ?_)
      have R2 := G3.out
      have rr0 : V3.cell? ⟨V0.heap.size, 0, none⟩ = some (.int .u64 0) := R2.cell 0
      have rr1 : V3.cell? ⟨V0.heap.size, 1, none⟩ = some (.int .i64 0) := R2.cell 1
      have rr2 : V3.cell? ⟨V0.heap.size, 2, none⟩ = some (.int .i64 0) := R2.cell 2
      have rr3 : V3.cell? ⟨V0.heap.size, 3, none⟩ = some (.int .i64 0) := R2.cell 3
      have rr4 : V3.cell? ⟨V0.heap.size, 4, none⟩ = some (.int .i64 0) := R2.cell 4
      have rf0 := R2.free 0
      have rf1 := R2.free 1
      have rf2 := R2.free 2
      have rf3 := R2.free 3
      have rf4 := R2.free 4
      refine Mix.mix_e (by simp only [List.getElem?_toArray, List.getElem?_cons_zero, List.getElem?_cons_succ]; exact rfl) rfl fun X2 hX2 => ?_
      obtain ⟨o2, rfl⟩ := hX2
      go_wp2_with fail
      (refine Mix.mix_q (by simp only [List.getElem?_toArray, List.getElem?_cons_zero, List.getElem?_cons_succ]; exact rfl) rfl ?_; go_big_quiet_step (fail); refine wpQuiet_nil ?_)
      intro m2
      refine Mix.wpX_done (by kernel_rfl) ?_
      intro u2
      refine ⟨V0.heap.size, ?_, ?_, ?_⟩
      · simp only [Act.put, List.setIfInBounds_toArray, List.set_cons_succ, List.set_cons_zero]
      · exact (((((((((R2.drewN o2).put 0 _).put 1 _).put 2 _).put 3 _).put 4 _)).drewN m2).drewN u2)
      · exact (((((((((D3.out.drewN o2).set (fun ho => absurd ho (by omega)) _).set (fun ho => absurd ho (by omega)) _).set (fun ho => absurd ho (by omega)) _).set (fun ho => absurd ho (by omega)) _).set (fun ho => absurd ho (by omega)) _)).drewN m2).drewN u2)
  · clear hS1 hS2 HS CC HST xc7 xs19
    rintro a' w8 ⟨rb, rfl, hR, hc⟩
    simp only [Act.put, List.setIfInBounds_toArray, List.set_cons_succ, List.set_cons_zero]
    have F8 := hid (show Blk w8 w.heap.size 29 #[.int .i64 (n : Int), .int .u64 ge, .int .i64 0, .int .i64 re, .int .i64 (q : Int), .int .i64 ba, .int .i64 fe, .string ⟨#[]⟩] from hc.blk F7.out id)
    have L8 := hid (show Blk w8 lb0 54 #[.int .i64 0, .int .i64 1, .int .i64 2, .int .i64 3, .int .i64 4, .int .i64 5, .int .i64 (5 + (q : Int)), .int .i64 (5 + (q : Int)), .int .i64 (5 + (q : Int)), .int .i64 (5 + (q : Int))] from hc.blk L7.out id)
    have S8 := hid (show ∃ cs, StC w8 sb [.int .i64 (n : Int), .int .u64 ge, .int .i64 0, .int .i64 re, .int .i64 (q : Int), .int .i64 ba, .int .i64 fe, .string ⟨#[]⟩, .int .i64 0, .int .i64 1, .int .i64 2, .int .i64 3, .int .i64 4, .int .i64 5, .int .i64 (5 + (q : Int)), .int .i64 (5 + (q : Int)), .int .i64 (5 + (q : Int)), .int .i64 (5 + (q : Int))] (.pointer (some ⟨p, 0, none⟩)) (.pointer (some ⟨ab, 0, none⟩)) (.pointer none) (.pointer none) (.slice none 0 0) (.slice none 0 0) cs from by obtain ⟨cs, h⟩ := S7.out; exact ⟨cs, h.keep hc id⟩)
    have B8 := hid (show Bank w.heap.size w8 p cb (.slice none 0 0) (List.replicate (5 + q) 0) [] from B7.out.ch hc id id (fun _ _ => id))
    have A8 := hid (show ArN w8 ab n ge lb mb from A7.out.keep hc)
    have C8 := hid (C7.out.trans hc (fun _ _ h => h))
    have RB := hid hR
    clear hR hc
    have xs23 : w8.cell? ⟨sb, 23, none⟩ = some (.slice none 0 0) := by obtain ⟨cs, h⟩ := S8.out; exact (h.blk.cell 23).trans h.c23
    have xf23 : w8.frozen? ⟨sb, 23, none⟩ = false := by obtain ⟨cs, h⟩ := S8.out; exact h.blk.free 23
    have rr0 : w8.cell? ⟨rb, 0, none⟩ = some (.int .u64 0) := RB.out.cell 0
    have rr1 : w8.cell? ⟨rb, 1, none⟩ = some (.int .i64 0) := RB.out.cell 1
    have rr2 : w8.cell? ⟨rb, 2, none⟩ = some (.int .i64 0) := RB.out.cell 2
    have rr3 : w8.cell? ⟨rb, 3, none⟩ = some (.int .i64 0) := RB.out.cell 3
    have rr4 : w8.cell? ⟨rb, 4, none⟩ = some (.int .i64 0) := RB.out.cell 4
    have lsb : sb < w8.heap.size := by obtain ⟨cs, h⟩ := S8.out; exact h.blk.lt
    go_wp2_with fail
    refine at_world fun W9 hW9 => ?_
    clear xs23 xf23
    clear rr0 rr1 rr2 rr3 rr4
    obtain ⟨rvb, hrvb⟩ : ∃ x, x = w8.heap.size := ⟨_, rfl⟩
    rw [← hrvb] at hW9
    have ch9 : Ch (fun j => j = sb) w8 W9 := by rw [hW9]; exact ((Ch.refl (fun j => j = sb) w8).set (fun _ => rfl) _).alloc _
    have hs8 : ∃ cs, Blk w8 sb 71 cs := by obtain ⟨cs, h⟩ := S8.out; exact ⟨cs, h.blk⟩
    obtain ⟨cs8, hb8⟩ := hs8
    have F9 := hid (show Blk W9 w.heap.size 29 #[.int .i64 (n : Int), .int .u64 ge, .int .i64 0, .int .i64 re, .int .i64 (q : Int), .int .i64 ba, .int .i64 fe, .string ⟨#[]⟩] from ch9.blk F8.out (fun e => Blk.ne F8.out hb8 (by decide) e))
    have L9 := hid (show Blk W9 lb0 54 #[.int .i64 0, .int .i64 1, .int .i64 2, .int .i64 3, .int .i64 4, .int .i64 5, .int .i64 (5 + (q : Int)), .int .i64 (5 + (q : Int)), .int .i64 (5 + (q : Int)), .int .i64 (5 + (q : Int))] from ch9.blk L8.out (fun e => Blk.ne L8.out hb8 (by decide) e))
    have S9 := hid (show ∃ cs, StC W9 sb [.int .i64 (n : Int), .int .u64 ge, .int .i64 0, .int .i64 re, .int .i64 (q : Int), .int .i64 ba, .int .i64 fe, .string ⟨#[]⟩, .int .i64 0, .int .i64 1, .int .i64 2, .int .i64 3, .int .i64 4, .int .i64 5, .int .i64 (5 + (q : Int)), .int .i64 (5 + (q : Int)), .int .i64 (5 + (q : Int)), .int .i64 (5 + (q : Int))] (.pointer (some ⟨p, 0, none⟩)) (.pointer (some ⟨ab, 0, none⟩)) (.pointer none) (.pointer none) (.slice none 0 0) (.slice (some ⟨rvb, 0, none⟩) 1 1) cs from by obtain ⟨cs, h⟩ := S8.out; exact ⟨_, by rw [hW9]; exact (h.put23 _).keep ((Ch.refl (fun _ => False) _).alloc _) id⟩)
    have B9 := hid (show Bank w.heap.size W9 p cb (.slice none 0 0) (List.replicate (5 + q) 0) [] from B8.out.ch ch9 (fun e => Blk.ne B8.out.hp hb8 (by decide) e) (fun e => Blk.ne B8.out.hc hb8 (by decide) e) (fun k hk => by simp [Value.ownBlock] at hk))
    have A9 := hid (show ArN W9 ab n ge lb mb from A8.out.far hb8 ch9)
    have C9 := hid (C8.out.trans ch9 (fun i hi e => absurd hi (by omega)))
    clear ch9 hb8
    have R9 := hid (show Blk W9 rvb 38 #[.int .i64 0, .int .u64 0, .int .i64 0, .int .i64 0, .int .i64 0, .int .i64 0, .slice none 0 0, .slice none 0 0] from by
      rw [hW9, hrvb]
      have := Blk.new (w8.setCell ⟨sb, 23, none⟩ (.slice (some ⟨w8.heap.size, 0, none⟩) 1 1)) 38 #[.int .i64 0, .int .u64 0, .int .i64 0, .int .i64 0, .int .i64 0, .int .i64 0, .slice none 0 0, .slice none 0 0]
      simpa using this)
    rw [← hrvb]
    have hrz : w.heap.size ≤ rvb := by rw [hrvb]; exact C8.out.size
    clear hW9 hrvb lsb RB
    have xc4 : W9.cell? ⟨w.heap.size, 4, none⟩ = some (.int .i64 (q : Int)) := F9.out.cell 4
    have xl3 : W9.cell? ⟨lb0, 3, none⟩ = some (.int .i64 3) := L9.out.cell 3
    have xl4 : W9.cell? ⟨lb0, 4, none⟩ = some (.int .i64 4) := L9.out.cell 4
    have xl5 : W9.cell? ⟨lb0, 5, none⟩ = some (.int .i64 5) := L9.out.cell 5
    have xs18 : W9.cell? ⟨sb, 18, none⟩ = some (.pointer (some ⟨p, 0, none⟩)) := by obtain ⟨cs, h⟩ := S9.out; exact (h.blk.cell 18).trans h.c18
    refine Mix.wp_region_mix (fun _ => True) (fun i => ([1, 0, 0, 0, 0, 0, 0, 0, 0, 0, 0, 0, 0, 2, 0, 0, 1, 0, 0, 2, 0] : List Nat).getD i 0) [0, 1, 2, 3, 4, 5, 6, 7, 8, 9, 10, 11, 12, 13, 14, 15, 16, 17, 18, 19, 20] (by kernel_rfl) (by kernel_rfl) ?_
    repeat (first | (refine Mix.mix_q (by simp only [List.getElem?_toArray, List.getElem?_cons_zero, List.getElem?_cons_succ]; exact rfl) rfl ?_; go_big_quiet_step (fail); refine wpQuiet_nil ?_) | (refine Mix.mix_p (by simp only [List.getElem?_toArray, List.getElem?_cons_zero, List.getElem?_cons_succ]; exact rfl) rfl rfl ?_; go_big_quiet_step (fail); refine wpQuiet_nil ?_))
    refine Mix.mix_e (by simp only [List.getElem?_toArray, List.getElem?_cons_zero, List.getElem?_cons_succ]; exact rfl) rfl fun X3 hX3 => ?_
    obtain ⟨k3, rfl⟩ := hX3
    go_wp2_with fail
    clear xc4 xl3 xl4 xl5 xs18
    refine (qnew_any w.heap.size p cb (.slice none 0 0) ⟨List.replicate (5 + q) 0, []⟩ 3 4 5 (q : Int) (W9.drewN k3) (B9.out.ch ((Ch.refl (fun _ => False) W9).drewN k3) id id (fun _ _ => id)) (by show (List.replicate (5 + q) (0 : Int)).length ≤ 4096; rw [List.length_replicate]; omega)).mono ?_
    rintro e w10 ⟨hc', hr⟩
    rw [show (⟨List.replicate (5 + q) 0, []⟩ : BS).vs = List.replicate (5 + q) 0 from rfl, qerr_new (by omega) (by omega)] at hr
    rcases hr with ⟨h, _⟩ | ⟨_, qb, _, rfl, hq⟩
    · exact absurd rfl h
    have hc := ((Ch.refl (fun _ => False) W9).drewN k3).trans hc' (fun _ _ h => h)
    have F10 := hid (show Blk w10 w.heap.size 29 #[.int .i64 (n : Int), .int .u64 ge, .int .i64 0, .int .i64 re, .int .i64 (q : Int), .int .i64 ba, .int .i64 fe, .string ⟨#[]⟩] from hc.blk F9.out id)
    have L10 := hid (show Blk w10 lb0 54 #[.int .i64 0, .int .i64 1, .int .i64 2, .int .i64 3, .int .i64 4, .int .i64 5, .int .i64 (5 + (q : Int)), .int .i64 (5 + (q : Int)), .int .i64 (5 + (q : Int)), .int .i64 (5 + (q : Int))] from hc.blk L9.out id)
    have S10 := hid (show ∃ cs, StC w10 sb [.int .i64 (n : Int), .int .u64 ge, .int .i64 0, .int .i64 re, .int .i64 (q : Int), .int .i64 ba, .int .i64 fe, .string ⟨#[]⟩, .int .i64 0, .int .i64 1, .int .i64 2, .int .i64 3, .int .i64 4, .int .i64 5, .int .i64 (5 + (q : Int)), .int .i64 (5 + (q : Int)), .int .i64 (5 + (q : Int)), .int .i64 (5 + (q : Int))] (.pointer (some ⟨p, 0, none⟩)) (.pointer (some ⟨ab, 0, none⟩)) (.pointer none) (.pointer none) (.slice none 0 0) (.slice (some ⟨rvb, 0, none⟩) 1 1) cs from by obtain ⟨cs, h⟩ := S9.out; exact ⟨cs, h.keep hc id⟩)
    have B10 := hid (show Bank w.heap.size w10 p cb (.slice none 0 0) (List.replicate (5 + q) 0) [] from B9.out.ch hc id id (fun _ _ => id))
    have A10 := hid (show ArN w10 ab n ge lb mb from A9.out.keep hc)
    have R10 := hid (show Blk w10 rvb 38 #[.int .i64 0, .int .u64 0, .int .i64 0, .int .i64 0, .int .i64 0, .int .i64 0, .slice none 0 0, .slice none 0 0] from hc.blk R9.out id)
    have C10 := hid (C9.out.trans hc (fun _ _ h => h))
    have Q10 := hid hq
    clear hc hc' hq
    have xs20 : w10.cell? ⟨sb, 20, none⟩ = some (.pointer none) := by obtain ⟨cs, h⟩ := S10.out; exact (h.blk.cell 20).trans h.c20
    have xf20 : w10.frozen? ⟨sb, 20, none⟩ = false := by obtain ⟨cs, h⟩ := S10.out; exact h.blk.free 20
    go_wp2_with fail
    repeat (first | (refine Mix.mix_q (by simp only [List.getElem?_toArray, List.getElem?_cons_zero, List.getElem?_cons_succ]; exact rfl) rfl ?_; go_big_quiet_step (fail); refine wpQuiet_nil ?_) | (refine Mix.mix_p (by simp only [List.getElem?_toArray, List.getElem?_cons_zero, List.getElem?_cons_succ]; exact rfl) rfl rfl ?_; go_big_quiet_step (fail); refine wpQuiet_nil ?_))
    refine Mix.mix_e (by simp only [List.getElem?_toArray, List.getElem?_cons_zero, List.getElem?_cons_succ]; exact rfl) rfl fun Z3 hZ3 => ?_
    obtain ⟨j3, rfl⟩ := hZ3
    go_wp2_with fail
    clear xs20 xf20
    (refine Mix.mix_q (by simp only [List.getElem?_toArray, List.getElem?_cons_zero, List.getElem?_cons_succ]; exact rfl) rfl ?_; go_big_quiet_step (fail); refine wpQuiet_nil ?_)
    intro i3
    go_wp2_with fail
    refine at_world fun W11 hW11 => ?_
    have ch11 : Ch (fun j => j = sb) w10 W11 := by rw [hW11]; exact (((Ch.refl (fun j => j = sb) w10).drewN j3).set (fun _ => rfl) _).drewN i3
    have hs10 : ∃ cs, Blk w10 sb 71 cs := by obtain ⟨cs, h⟩ := S10.out; exact ⟨cs, h.blk⟩
    obtain ⟨cs10, hb10⟩ := hs10
    have F11 := hid (show Blk W11 w.heap.size 29 #[.int .i64 (n : Int), .int .u64 ge, .int .i64 0, .int .i64 re, .int .i64 (q : Int), .int .i64 ba, .int .i64 fe, .string ⟨#[]⟩] from ch11.blk F10.out (fun e => Blk.ne F10.out hb10 (by decide) e))
    have L11 := hid (show Blk W11 lb0 54 #[.int .i64 0, .int .i64 1, .int .i64 2, .int .i64 3, .int .i64 4, .int .i64 5, .int .i64 (5 + (q : Int)), .int .i64 (5 + (q : Int)), .int .i64 (5 + (q : Int)), .int .i64 (5 + (q : Int))] from ch11.blk L10.out (fun e => Blk.ne L10.out hb10 (by decide) e))
    have S11 := hid (show ∃ cs, StC W11 sb [.int .i64 (n : Int), .int .u64 ge, .int .i64 0, .int .i64 re, .int .i64 (q : Int), .int .i64 ba, .int .i64 fe, .string ⟨#[]⟩, .int .i64 0, .int .i64 1, .int .i64 2, .int .i64 3, .int .i64 4, .int .i64 5, .int .i64 (5 + (q : Int)), .int .i64 (5 + (q : Int)), .int .i64 (5 + (q : Int)), .int .i64 (5 + (q : Int))] (.pointer (some ⟨p, 0, none⟩)) (.pointer (some ⟨ab, 0, none⟩)) (.pointer (some ⟨qb, 0, none⟩)) (.pointer none) (.slice none 0 0) (.slice (some ⟨rvb, 0, none⟩) 1 1) cs from by obtain ⟨cs, h⟩ := S10.out; exact ⟨_, by rw [hW11]; exact ((h.drewN j3).put20 _).drewN i3⟩)
    have B11 := hid (show Bank w.heap.size W11 p cb (.slice none 0 0) (List.replicate (5 + q) 0) [] from B10.out.ch ch11 (fun e => Blk.ne B10.out.hp hb10 (by decide) e) (fun e => Blk.ne B10.out.hc hb10 (by decide) e) (fun k hk => by simp [Value.ownBlock] at hk))
    have A11 := hid (show ArN W11 ab n ge lb mb from A10.out.far hb10 ch11)
    have R11 := hid (show Blk W11 rvb 38 #[.int .i64 0, .int .u64 0, .int .i64 0, .int .i64 0, .int .i64 0, .int .i64 0, .slice none 0 0, .slice none 0 0] from ch11.blk R10.out (fun e => Blk.ne R10.out hb10 (by decide) e))
    have Q11 := hid (show Blk W11 qb 112 #[.pointer (some ⟨p, 0, none⟩), .int .i64 3, .int .i64 4, .int .i64 5, .int .u64 (q : Int), .pointer none] from ch11.blk Q10.out (fun e => Blk.ne Q10.out hb10 (by decide) e))
    have C11 := hid (C10.out.trans ch11 (fun i hi e => absurd hi (by omega)))
    clear ch11 hb10
    clear hW11
    have xc2 : W11.cell? ⟨w.heap.size, 2, none⟩ = some (.int .i64 0) := F11.out.cell 2
    have xc3 : W11.cell? ⟨w.heap.size, 3, none⟩ = some (.int .i64 re) := F11.out.cell 3
    have xl2 : W11.cell? ⟨lb0, 2, none⟩ = some (.int .i64 2) := L11.out.cell 2
    have xl6 : W11.cell? ⟨lb0, 6, none⟩ = some (.int .i64 (5 + (q : Int))) := L11.out.cell 6
    have xs18 : W11.cell? ⟨sb, 18, none⟩ = some (.pointer (some ⟨p, 0, none⟩)) := by obtain ⟨cs, h⟩ := S11.out; exact (h.blk.cell 18).trans h.c18
    refine Mix.wp_region_mix (fun _ => True) (fun i => ([1, 0, 0, 0, 0, 0, 0, 0, 0, 0, 0, 0, 0, 0, 2, 0, 0, 1, 0, 0, 2, 0] : List Nat).getD i 0) [0, 1, 2, 3, 4, 5, 6, 7, 8, 9, 10, 11, 12, 13, 14, 15, 16, 17, 18, 19, 20, 21] (by kernel_rfl) (by kernel_rfl) ?_
    repeat (first | (refine Mix.mix_q (by simp only [List.getElem?_toArray, List.getElem?_cons_zero, List.getElem?_cons_succ]; exact rfl) rfl ?_; go_big_quiet_step (fail); refine wpQuiet_nil ?_) | (refine Mix.mix_p (by simp only [List.getElem?_toArray, List.getElem?_cons_zero, List.getElem?_cons_succ]; exact rfl) rfl rfl ?_; go_big_quiet_step (fail); refine wpQuiet_nil ?_))
    refine Mix.mix_e (by simp only [List.getElem?_toArray, List.getElem?_cons_zero, List.getElem?_cons_succ]; exact rfl) rfl fun X4 hX4 => ?_
    obtain ⟨k4, rfl⟩ := hX4
    go_wp2_with fail
    clear xc2 xc3 xl2 xl6 xs18
    refine (enew_any w.heap.size p cb (.slice none 0 0) ⟨List.replicate (5 + q) 0, []⟩ 2 (5 + (q : Int)) 0 (W11.drewN k4) (B11.out.ch ((Ch.refl (fun _ => False) W11).drewN k4) id id (fun _ _ => id)) (by show (List.replicate (5 + q) (0 : Int)).length ≤ 4096; rw [List.length_replicate]; omega)).mono ?_
    rintro e w12 ⟨hc', hr⟩
    rw [show (⟨List.replicate (5 + q) 0, []⟩ : BS).vs = List.replicate (5 + q) 0 from rfl, eerr_new (by omega) (by omega)] at hr
    rcases hr with ⟨h, _⟩ | ⟨_, eb, pb, _, _, rfl, he, hp⟩
    · exact absurd rfl h
    have hc := ((Ch.refl (fun _ => False) W11).drewN k4).trans hc' (fun _ _ h => h)
    have F12 := hid (show Blk w12 w.heap.size 29 #[.int .i64 (n : Int), .int .u64 ge, .int .i64 0, .int .i64 re, .int .i64 (q : Int), .int .i64 ba, .int .i64 fe, .string ⟨#[]⟩] from hc.blk F11.out id)
    have L12 := hid (show Blk w12 lb0 54 #[.int .i64 0, .int .i64 1, .int .i64 2, .int .i64 3, .int .i64 4, .int .i64 5, .int .i64 (5 + (q : Int)), .int .i64 (5 + (q : Int)), .int .i64 (5 + (q : Int)), .int .i64 (5 + (q : Int))] from hc.blk L11.out id)
    have S12 := hid (show ∃ cs, StC w12 sb [.int .i64 (n : Int), .int .u64 ge, .int .i64 0, .int .i64 re, .int .i64 (q : Int), .int .i64 ba, .int .i64 fe, .string ⟨#[]⟩, .int .i64 0, .int .i64 1, .int .i64 2, .int .i64 3, .int .i64 4, .int .i64 5, .int .i64 (5 + (q : Int)), .int .i64 (5 + (q : Int)), .int .i64 (5 + (q : Int)), .int .i64 (5 + (q : Int))] (.pointer (some ⟨p, 0, none⟩)) (.pointer (some ⟨ab, 0, none⟩)) (.pointer (some ⟨qb, 0, none⟩)) (.pointer none) (.slice none 0 0) (.slice (some ⟨rvb, 0, none⟩) 1 1) cs from by obtain ⟨cs, h⟩ := S11.out; exact ⟨cs, h.keep hc id⟩)
    have B12 := hid (show Bank w.heap.size w12 p cb (.slice none 0 0) (List.replicate (5 + q) 0) [] from B11.out.ch hc id id (fun _ _ => id))
    have A12 := hid (show ArN w12 ab n ge lb mb from A11.out.keep hc)
    have R12 := hid (show Blk w12 rvb 38 #[.int .i64 0, .int .u64 0, .int .i64 0, .int .i64 0, .int .i64 0, .int .i64 0, .slice none 0 0, .slice none 0 0] from hc.blk R11.out id)
    have Q12 := hid (show Blk w12 qb 112 #[.pointer (some ⟨p, 0, none⟩), .int .i64 3, .int .i64 4, .int .i64 5, .int .u64 (q : Int), .pointer none] from hc.blk Q11.out id)
    have C12 := hid (C11.out.trans hc (fun _ _ h => h))
    have E12 := hid he
    have P12 := hid hp
    clear hc hc' he hp
    have xc2 : w12.cell? ⟨w.heap.size, 2, none⟩ = some (.int .i64 0) := F12.out.cell 2
    have xs21 : w12.cell? ⟨sb, 21, none⟩ = some (.pointer none) := by obtain ⟨cs, h⟩ := S12.out; exact (h.blk.cell 21).trans h.c21
    have xf21 : w12.frozen? ⟨sb, 21, none⟩ = false := by obtain ⟨cs, h⟩ := S12.out; exact h.blk.free 21
    go_wp2_with fail
    repeat (first | (refine Mix.mix_q (by simp only [List.getElem?_toArray, List.getElem?_cons_zero, List.getElem?_cons_succ]; exact rfl) rfl ?_; go_big_quiet_step (fail); refine wpQuiet_nil ?_) | (refine Mix.mix_p (by simp only [List.getElem?_toArray, List.getElem?_cons_zero, List.getElem?_cons_succ]; exact rfl) rfl rfl ?_; go_big_quiet_step (fail); refine wpQuiet_nil ?_))
    refine Mix.mix_e (by simp only [List.getElem?_toArray, List.getElem?_cons_zero, List.getElem?_cons_succ]; exact rfl) rfl fun Z4 hZ4 => ?_
    obtain ⟨j4, rfl⟩ := hZ4
    go_wp2_with fail
    clear xs21 xf21
    (refine Mix.mix_q (by simp only [List.getElem?_toArray, List.getElem?_cons_zero, List.getElem?_cons_succ]; exact rfl) rfl ?_; go_big_quiet_step (fail); refine wpQuiet_nil ?_)
    intro i4
    go_wp2_with fail
    refine at_world fun W13 hW13 => ?_
    have ch13 : Ch (fun j => j = sb) w12 W13 := by rw [hW13]; exact (((Ch.refl (fun j => j = sb) w12).drewN j4).set (fun _ => rfl) _).drewN i4
    have hs12 : ∃ cs, Blk w12 sb 71 cs := by obtain ⟨cs, h⟩ := S12.out; exact ⟨cs, h.blk⟩
    obtain ⟨cs12, hb12⟩ := hs12
    have F13 := hid (show Blk W13 w.heap.size 29 #[.int .i64 (n : Int), .int .u64 ge, .int .i64 0, .int .i64 re, .int .i64 (q : Int), .int .i64 ba, .int .i64 fe, .string ⟨#[]⟩] from ch13.blk F12.out (fun e => Blk.ne F12.out hb12 (by decide) e))
    have L13 := hid (show Blk W13 lb0 54 #[.int .i64 0, .int .i64 1, .int .i64 2, .int .i64 3, .int .i64 4, .int .i64 5, .int .i64 (5 + (q : Int)), .int .i64 (5 + (q : Int)), .int .i64 (5 + (q : Int)), .int .i64 (5 + (q : Int))] from ch13.blk L12.out (fun e => Blk.ne L12.out hb12 (by decide) e))
    have S13 := hid (show ∃ cs, StC W13 sb [.int .i64 (n : Int), .int .u64 ge, .int .i64 0, .int .i64 re, .int .i64 (q : Int), .int .i64 ba, .int .i64 fe, .string ⟨#[]⟩, .int .i64 0, .int .i64 1, .int .i64 2, .int .i64 3, .int .i64 4, .int .i64 5, .int .i64 (5 + (q : Int)), .int .i64 (5 + (q : Int)), .int .i64 (5 + (q : Int)), .int .i64 (5 + (q : Int))] (.pointer (some ⟨p, 0, none⟩)) (.pointer (some ⟨ab, 0, none⟩)) (.pointer (some ⟨qb, 0, none⟩)) (.pointer (some ⟨eb, 0, none⟩)) (.slice none 0 0) (.slice (some ⟨rvb, 0, none⟩) 1 1) cs from by obtain ⟨cs, h⟩ := S12.out; exact ⟨_, by rw [hW13]; exact ((h.drewN j4).put21 _).drewN i4⟩)
    have B13 := hid (show Bank w.heap.size W13 p cb (.slice none 0 0) (List.replicate (5 + q) 0) [] from B12.out.ch ch13 (fun e => Blk.ne B12.out.hp hb12 (by decide) e) (fun e => Blk.ne B12.out.hc hb12 (by decide) e) (fun k hk => by simp [Value.ownBlock] at hk))
    have A13 := hid (show ArN W13 ab n ge lb mb from A12.out.far hb12 ch13)
    have R13 := hid (show Blk W13 rvb 38 #[.int .i64 0, .int .u64 0, .int .i64 0, .int .i64 0, .int .i64 0, .int .i64 0, .slice none 0 0, .slice none 0 0] from ch13.blk R12.out (fun e => Blk.ne R12.out hb12 (by decide) e))
    have Q13 := hid (show Blk W13 qb 112 #[.pointer (some ⟨p, 0, none⟩), .int .i64 3, .int .i64 4, .int .i64 5, .int .u64 (q : Int), .pointer none] from ch13.blk Q12.out (fun e => Blk.ne Q12.out hb12 (by decide) e))
    have E13 := hid (show Blk W13 eb 118 #[.pointer (some ⟨p, 0, none⟩), .int .i64 2, .int .i64 (5 + (q : Int)), .int .i64 0, .slice (some ⟨pb, 0, none⟩) 0 0, .pointer none] from ch13.blk E12.out (fun e => Blk.ne E12.out hb12 (by decide) e))
    have P13 := hid (show Blk W13 pb 225 (madeX #[.pointer none] 0) from ch13.blk P12.out (fun e => Blk.ne P12.out hb12 (by decide) e))
    have C13 := hid (C12.out.trans ch13 (fun i hi e => absurd hi (by omega)))
    clear ch13 hb12
    clear hW13
    clear xc2
    go_loopw [115] (fun i W => i = .int .i64 0 ∧ W = W13) (fun _ _ => 0)
    case atStart => exact ⟨rfl, rfl⟩
    case round =>
      obtain ⟨rfl, rfl⟩ := hrel
      go_wp2_with fail
      go_ret2
      obtain ⟨cs, hS⟩ := S13.out
      exact ⟨sb, p, cb, ab, lb, mb, qb, eb, pb, rvb, cs, rfl, hS, B13.out, A13.out, Q13.out, E13.out, P13.out, R13.out, C13.out, by omega, hrz⟩
end Go.Proofs.Ytefpabicgefciaa
