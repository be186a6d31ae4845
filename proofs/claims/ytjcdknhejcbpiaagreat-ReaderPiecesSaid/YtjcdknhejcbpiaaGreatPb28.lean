/- Texts XRdM for XPcs, by trim.py. -/
import Derived.Test.YtjcdknhejcbpiaaGreatPb27
namespace Go.Proofs.YtjcdknhejcbpiaaGreat
open Go.RowKit
set_option linter.unusedVariables false
set_option linter.unusedSimpArgs false
set_option linter.unusedSectionVars false
set_option maxRecDepth 100000
theorem rnext_any (g : Nat) (r : Rd) (w : World) (h : Blk w g 111 r.cells) : Calls Tryz.prog 24 #[.pointer (some ⟨g, 0, none⟩)] w fun e w' => e = .returned (.int .u8 r.ph) ∧ w = w' := by
  have a11 : w.cell? ⟨g, 11, none⟩ = some (.int .u8 r.ph) := h.cell 11
  clear h
  go_enter Tryz.func24, Tryz.ntmps24
  go_wp2_with fail
  go_ret
  exact ⟨rfl, rfl⟩
set_option maxHeartbeats 2000000 in
theorem rresult_any (g : Nat) (r : Rd) (w : World) (h : Blk w g 111 r.cells) : Calls Tryz.prog 17 #[.pointer (some ⟨g, 0, none⟩)] w fun e w' => e = .returned r.rs.v ∧ Ch (fun _ => False) w w' := by
  have hl := h.lt
  have n1 : g ≠ w.heap.size := Nat.ne_of_lt hl
  have n2 : w.heap.size ≠ g := Ne.symm n1
  have x0 : w.cell? ⟨g, 14, none⟩ = some (.int .i64 r.rs.er) := h.cell 14
  have x1 : w.cell? ⟨g, 15, none⟩ = some (.int .i64 r.rs.rev) := h.cell 15
  have x2 : w.cell? ⟨g, 16, none⟩ = some (.int .i64 r.rs.sl) := h.cell 16
  have x3 : w.cell? ⟨g, 17, none⟩ = some (.int .i64 r.rs.at') := h.cell 17
  have x4 : w.cell? ⟨g, 18, none⟩ = some (.int .u8 r.rs.g) := h.cell 18
  have x5 : w.cell? ⟨g, 19, none⟩ = some (.string r.rs.s) := h.cell 19
  have x6 : w.cell? ⟨g, 20, none⟩ = some (.int .i64 r.rs.b) := h.cell 20
  have x7 : w.cell? ⟨g, 21, none⟩ = some (.int .i64 r.rs.r) := h.cell 21
  have x8 : w.cell? ⟨g, 22, none⟩ = some (.int .i64 r.rs.l) := h.cell 22
  have x9 : w.cell? ⟨g, 23, none⟩ = some (.int .u8 r.rs.ik) := h.cell 23
  have x10 : w.cell? ⟨g, 24, none⟩ = some (.int .i64 r.rs.fr) := h.cell 24
  have x11 : w.cell? ⟨g, 25, none⟩ = some (.int .i64 r.rs.to) := h.cell 25
  have x12 : w.cell? ⟨g, 26, none⟩ = some (.slice none 0 0) := h.cell 26
  clear h
  simp only [RsV.v]
  go_enter Tryz.func17, Tryz.ntmps17
  go_wp2_with fail
  refine bodyPost_ret (v := .agg #[.int .i64 r.rs.er, .int .i64 r.rs.rev, .int .i64 r.rs.sl, .int .i64 r.rs.at', .int .u8 r.rs.g, .string r.rs.s, .int .i64 r.rs.b, .int .i64 r.rs.r, .int .i64 r.rs.l, .int .u8 r.rs.ik, .int .i64 r.rs.fr, .int .i64 r.rs.to, .slice none 0 0]) ?_ rfl ⟨rfl, below_ch ?_⟩
  · simp [results, Tryz.results17, go_sem]
  · repeat (refine Below.setCell ?_ (by simp) _)
    exact (Below.refl _ _).alloc (Nat.le_refl _) _
/-- A store's configuration. -/
def Cf.arr (c : Cf) : Array Value := #[.int .i64 c.sl, .int .u64 c.ge, .int .i64 c.cl, .int .i64 c.re, .int .i64 c.qu, .int .i64 c.ba, .int .i64 c.fe, .string c.tx]
set_option maxHeartbeats 1000000 in
theorem sconfig_any (sb : Nat) (cs : Array Value) (c : Cf) (w : World) (hS : Blk w sb 125 cs) (hc : ∀ (j : Nat) (v : Value), c.arr[j]? = some v → cs[j]? = some v) : Calls Tryz.prog 51 #[.pointer (some ⟨sb, 0, none⟩)] w fun e w' => e = .returned (.agg c.arr) ∧ Ch (fun _ => False) w w' := by
  have hl := hS.lt
  have n1 : sb ≠ w.heap.size := Nat.ne_of_lt hl
  have n2 : w.heap.size ≠ sb := Ne.symm n1
  have b0 : w.cell? ⟨sb, 0, none⟩ = some (.int .i64 c.sl) := (hS.cell 0).trans (hc 0 _ rfl)
  have b1 : w.cell? ⟨sb, 1, none⟩ = some (.int .u64 c.ge) := (hS.cell 1).trans (hc 1 _ rfl)
  have b2 : w.cell? ⟨sb, 2, none⟩ = some (.int .i64 c.cl) := (hS.cell 2).trans (hc 2 _ rfl)
  have b3 : w.cell? ⟨sb, 3, none⟩ = some (.int .i64 c.re) := (hS.cell 3).trans (hc 3 _ rfl)
  have b4 : w.cell? ⟨sb, 4, none⟩ = some (.int .i64 c.qu) := (hS.cell 4).trans (hc 4 _ rfl)
  have b5 : w.cell? ⟨sb, 5, none⟩ = some (.int .i64 c.ba) := (hS.cell 5).trans (hc 5 _ rfl)
  have b6 : w.cell? ⟨sb, 6, none⟩ = some (.int .i64 c.fe) := (hS.cell 6).trans (hc 6 _ rfl)
  have b7 : w.cell? ⟨sb, 7, none⟩ = some (.string c.tx) := (hS.cell 7).trans (hc 7 _ rfl)
  clear hS hc
  go_enter Tryz.func51, Tryz.ntmps51
  go_wp2_with fail
  refine bodyPost_ret (v := .agg c.arr) ?_ rfl ⟨rfl, below_ch ?_⟩
  · simp [results, Tryz.results51, go_sem, Cf.arr]
  · repeat (refine Below.setCell ?_ (by simp) _)
    exact (Below.refl _ _).alloc (Nat.le_refl _) _
theorem madeX_repR (v : Value) (n : Nat) : madeX #[v] n = (List.replicate n v).toArray := by
  unfold madeX madeCells
  apply Array.ext (by simp)
  intro i h1 h2
  simp [Nat.mod_one]
theorem pins_none (n : Nat) : madeX #[.pointer none] n = pinsA (List.replicate n none) := by
  rw [madeX_repR]
  unfold pinsA
  rw [List.map_replicate]
  rfl
theorem blk_new3R (w : World) (A B : Obj) (t : TypeId) (cs : Array Value) : Blk (((w.alloc A).alloc B).alloc (.cells cs t)) (w.heap.size + 1 + 1) t cs := by
  have h := Blk.new ((w.alloc A).alloc B) t cs
  simpa using h
theorem blk_new2R (w : World) (A : Obj) (t : TypeId) (cs : Array Value) : Blk ((w.alloc A).alloc (.cells cs t)) (w.heap.size + 1) t cs := by
  have h := Blk.new (w.alloc A) t cs
  simpa using h
/-- A new reader. -/
def Rd.new (sb lb n : Nat) (cl : Int) : Rd := ⟨sb, cl, .slice (some ⟨lb, 0, none⟩) n n, OpV.zero, false, 0, .nilFunc, false, RsV.zero, 0, .pointer none, 0, 0, ⟨0, 0, 0⟩, .slice none 0 0, 0, 0⟩
set_option maxHeartbeats 2000000 in
theorem rnew_any (sb n : Nat) (cs : Array Value) (c : Cf) (cl : Int) (w : World) (hS : Blk w sb 125 cs) (hc : ∀ (j : Nat) (v : Value), c.arr[j]? = some v → cs[j]? = some v) (hcl : 0 ≤ cl ∧ cl < c.cl) (hn : c.re = (n : Int)) (hn8 : n ≤ 8) :
    Calls Tryz.prog 20 #[.pointer (some ⟨sb, 0, none⟩), .int .i64 cl] w fun e w' => ∃ g lb, e = .returned (.tuple #[.pointer (some ⟨g, 0, none⟩), .int .i64 0]) ∧ Blk w' g 111 (Rd.cells (Rd.new sb lb n cl)) ∧ Blk w' lb 140 (pinsA (List.replicate n none)) ∧ Ch (fun _ => False) w w' ∧ w.heap.size ≤ lb ∧ lb < g := by
  have HC := hid (fun W (hW : Blk W sb 125 cs) => sconfig_any sb cs c W hW hc)
  have HS := hid hS
  obtain ⟨c0, c1, c2, c3, c4, c5, c6, c7⟩ := c
  simp only at hcl hn
  subst hn
  simp only [Cf.arr] at HC
  have d1 : decide (cl < 0) = false := decide_eq_false (by omega)
  have d2 : decide (c2 ≤ cl) = false := decide_eq_false (by omega)
  have hmk : ∀ W : World, (Instr.makeSlice 107 (.int .i64 (n : Int)) (.int .i64 (n : Int))).run Tryz.prog W = .ok (.slice (some ⟨W.heap.size, 0, none⟩) n n) (W.alloc (.cells (madeX (Value.cells (.pointer none)) (n * 1)) 140)) := fun W => run_make_x (P := Tryz.prog) 107 140 (.pointer none) 1 8 Tryz.underlying107 (by kernel_rfl) (by decide) n (by omega) W
  clear hS hc hcl
  go_enter Tryz.func20, Tryz.ntmps20
  go_wp2_with fail
  refine (HC.out w HS.out).mono ?_
  rintro e w1 ⟨rfl, hc⟩
  have C1 := hid hc
  clear hc
  have hn0 : decide ((n : Int) < 0) = false := decide_eq_false (by omega)
  go_wp2_with fail
  go_ret2
  refine ⟨w1.heap.size + 1 + 1, w1.heap.size + 1, rfl, ?_, ?_, ((C1.out.alloc _).alloc _).alloc _, by have := C1.out.size; omega, by omega⟩
  · exact Blk.as (blk_new3R _ _ _ _ _) (by simp [Rd.cells, Rd.new, OpV.zero, RsV.zero])
  · exact Blk.as ((blk_new2R _ _ _ _).alloc _) (pins_none n)
end Go.Proofs.YtjcdknhejcbpiaaGreat
