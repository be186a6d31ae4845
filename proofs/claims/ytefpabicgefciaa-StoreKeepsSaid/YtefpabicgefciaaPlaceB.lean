/- Place of the store, and of the reference. -/
import Derived.Test.YtefpabicgefciaaPlaceA
namespace Go.Proofs.Ytefpabicgefciaa
open Go.RowKit
set_option linter.unusedVariables false
set_option linter.unusedSimpArgs false

theorem bcell {W w1 : World} (hb : Below W.heap.size W w1) : (∀ b o, b < W.heap.size → w1.cell? ⟨b, o, none⟩ = W.cell? ⟨b, o, none⟩) ∧ (∀ b o, b < W.heap.size → w1.frozen? ⟨b, o, none⟩ = W.frozen? ⟨b, o, none⟩) :=
  ⟨fun b o h => hb.cell (p := ⟨b, o, none⟩) h, fun b o h => hb.frozen (p := ⟨b, o, none⟩) h⟩
def layV (sl re fe ce : Int) : Value := .agg #[.int .i64 0, .int .i64 1, .int .i64 2, .int .i64 3, .int .i64 4, .int .i64 5, .int .i64 sl, .int .i64 re, .int .i64 fe, .int .i64 ce]
def layZ : Value := .agg #[.int .i64 0, .int .i64 0, .int .i64 0, .int .i64 0, .int .i64 0, .int .i64 0, .int .i64 0, .int .i64 0, .int .i64 0, .int .i64 0]
def Cf.l6 (c : Cf) : Int := 5 + c.qu
def Cf.l7 (c : Cf) : Int := 5 + c.qu + c.cl * c.re
def Cf.l8 (c : Cf) : Int := 5 + c.qu + c.cl * c.re + c.cl
def Cf.l9 (c : Cf) : Int := 5 + c.qu + c.cl * c.re + c.cl + c.cl * (4 + c.fe)
theorem ck_nums {c : Cf} (h : ckE c = 0) : c.nums := by
  unfold ckE at h
  split at h
  · cases h
  · rename_i hn; exact Classical.not_not.1 hn
theorem mul_bd {a b m n : Int} (h1 : 0 ≤ a) (h2 : a ≤ m) (h3 : 0 ≤ b) (h4 : b ≤ n) : 0 ≤ a * b ∧ a * b ≤ m * n := by
  refine ⟨Int.mul_nonneg h1 h3, ?_⟩
  exact Int.mul_le_mul h2 h4 h3 (by omega)

set_option maxHeartbeats 400000 in
theorem place_bad (c : Cf) (w : World) (hm : c.tx.size ≤ 1000000) (h : ckE c ≠ 0) : Calls Try.prog 11 #[c.v] w fun e w' => e = .returned (.tuple #[layZ, .int .i64 (ckE c)]) ∧ Below w.heap.size w w' := by
  have hc := check_all c
  obtain ⟨sl, ge, cl, re, qu, ba, fe, tx⟩ := c
  simp only [Cf.v] at hc ⊢
  generalize ckE ⟨sl, ge, cl, re, qu, ba, fe, tx⟩ = k at h hc ⊢
  have hb : (k != 0) = true := by rw [bne_iff_ne]; exact h
  have HC := hid hc
  clear hc
  go_enter Try.func11, Try.ntmps11
  go_wp2_with fail
  refine (HC.out _ hm).mono ?_
  rintro e w1 ⟨rfl, hbel⟩
  obtain ⟨hcell, hfr⟩ := bcell hbel
  have hsz := hbel.size
  simp only [World.size_alloc] at hsz
  go_wp2_with fail
  refine bodyPost_ret (v := .tuple #[layZ, .int .i64 k]) ?_ rfl ⟨rfl, ?_⟩
  · simp [results, Try.results11, go_sem, layZ, hcell, hfr]
  · iterate 10 refine Below.setCell ?_ (by simp) _
    exact (((Below.refl _ _).alloc (Nat.le_refl _) _).alloc (by simp) _).trans (hbel.mono (by simp; omega))
set_option maxHeartbeats 400000 in
theorem place_ok (c : Cf) (w : World) (hm : c.tx.size ≤ 1000000) (h : ckE c = 0) : Calls Try.prog 11 #[c.v] w fun e w' => e = .returned (.tuple #[layV c.l6 c.l7 c.l8 c.l9, .int .i64 0]) ∧ Below w.heap.size w w' := by
  have hc := check_all c
  obtain ⟨-, -, ⟨c1, c2⟩, ⟨r1, r2⟩, ⟨q1, q2⟩, -, ⟨f1, f2⟩⟩ := ck_nums h
  rw [h] at hc
  clear h
  obtain ⟨sl, ge, cl, re, qu, ba, fe, tx⟩ := c
  simp only [Cf.v, Cf.l6, Cf.l7, Cf.l8, Cf.l9] at hc c1 c2 r1 r2 q1 q2 f1 f2 ⊢
  obtain ⟨m1, m2⟩ := mul_bd c1 c2 r1 r2
  obtain ⟨m3, m4⟩ := mul_bd c1 c2 (by omega : 0 ≤ 4 + fe) (by omega : 4 + fe ≤ 68)
  have HC := hid hc
  clear hc
  go_enter Try.func11, Try.ntmps11
  go_wp2_with fail
  refine (HC.out _ hm).mono ?_
  rintro e w1 ⟨rfl, hbel⟩
  obtain ⟨hcell, hfr⟩ := bcell hbel
  have hsz := hbel.size
  simp only [World.size_alloc] at hsz
  have e1 : w1.cell? ⟨w.heap.size, 4, none⟩ = some (.int .i64 qu) := by rw [hcell _ _ (by simp; omega)]; simp
  have e2 : w1.cell? ⟨w.heap.size, 2, none⟩ = some (.int .i64 cl) := by rw [hcell _ _ (by simp; omega)]; simp
  have e3 : w1.cell? ⟨w.heap.size, 3, none⟩ = some (.int .i64 re) := by rw [hcell _ _ (by simp; omega)]; simp
  have e4 : w1.cell? ⟨w.heap.size, 6, none⟩ = some (.int .i64 fe) := by rw [hcell _ _ (by simp; omega)]; simp
  have hlt : w.heap.size < w1.heap.size := by omega
  have hlt1 : w.heap.size + 1 < w1.heap.size := by omega
  go_wp2_with fail
  refine bodyPost_ret (v := .tuple #[layV (5 + qu) (5 + qu + cl * re) (5 + qu + cl * re + cl) (5 + qu + cl * re + cl + cl * (4 + fe)), .int .i64 0]) ?_ rfl ⟨rfl, ?_⟩
  · simp [results, Try.results11, go_sem, layV, hcell, hfr, hlt1]
  · refine Below.alloc ?_ (by simp; omega) _
    iterate 10 refine Below.setCell ?_ (by simp) _
    exact (((Below.refl _ _).alloc (Nat.le_refl _) _).alloc (by simp) _).trans (hbel.mono (by simp; omega))
end Go.Proofs.Ytefpabicgefciaa
