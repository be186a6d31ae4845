/- Lemmas that the proof of the last text leans on; no condition. -/
import Derived.Test.YtjcdknhejcbpiaaGreatNb40
import Derived.Test.YtjcdknhejcbpiaaGreatNb15
import Derived.Test.YtjcdknhejcbpiaaGreatNb41
import Derived.Test.YtjcdknhejcbpiaaGreatNb27
import Derived.Laws.IdiomStrings
import Derived.Lib.BufferRead
import Derived.Test.YtjcdknhejcbpiaaGreatNb37
import Derived.Test.YtjcdknhejcbpiaaGreatNb11
import Derived.Test.YtjcdknhejcbpiaaGreatNb34
namespace Go.Proofs.YtjcdknhejcbpiaaGreat
open Go.RowKit
set_option linter.unusedVariables false
set_option linter.unusedSimpArgs false
set_option linter.unusedSectionVars false
set_option maxRecDepth 100000
def bsK (m : Ms) (ks : List Kd) (j : Nat) : Ms := ((ks.take j).map Kd.m).foldl Ms.add m
set_option maxRecDepth 100000
section
variable {B : Nat} {w0 w : World} {R : List Res} {σ : RS} {y : Ly} {n m : Nat}
end
set_option maxRecDepth 100000
section
variable {B : Nat} {w0 w : World} {R : List Res} {σ : RS} {y : Ly} {n m : Nat}
end
set_option maxRecDepth 100000
section
variable {B : Nat} {w0 w : World} {R : List Res} {σ : RS} {y : Ly} {n m : Nat}
end
set_option maxRecDepth 100000
def visF (g : Nat) : Value := .func (.func 106) #[.pointer (some ⟨g, 0, none⟩)] #[]
section
variable {B : Nat} {w0 w : World} {R : List Res} {σ : RS} {y : Ly} {n m : Nat}
end
set_option maxRecDepth 100000
def takenF (g : Nat) : Value := .func (.func 105) #[.pointer (some ⟨g, 0, none⟩)] #[]
set_option maxRecDepth 100000
section
variable {B : Nat} {w0 w : World} {R : List Res} {σ : RS} {y : Ly} {n m : Nat}
end
set_option maxRecDepth 100000
def visLF (g : Nat) : Value := .func (.func 72) #[.pointer (some ⟨g, 0, none⟩)] #[]
def visRF (g : Nat) : Value := .func (.func 71) #[.pointer (some ⟨g, 0, none⟩)] #[]
set_option maxRecDepth 100000
def seekV (ob zb rb : Nat) : Value := .func (.func 66) #[] #[.pointer (some ⟨ob, 0, none⟩), .pointer (some ⟨zb, 0, none⟩), .pointer (some ⟨rb, 0, none⟩)]
set_option maxRecDepth 100000
section
variable {B : Nat} {w0 w : World} {R : List Res} {σ : RS} {y : Ly} {n m : Nat}
set_option maxHeartbeats 4000000 in
theorem step_b (M : Mem B w0 (σ.L B ++ R) w) (O : σ.Ok y n m) (hb : σ.r.busy = true) (F : FuncId) (bs : Array Value) (hdv : σ.r.dv = .func (.func F) #[] bs) (hin : ∀ W : World, (callFunc F bs).run Tryz.prog W = .ok (.enter F bs) W)
    (P : Int → RS → Prop) (hP : ∀ hv σ', P hv σ' → σ'.g = σ.g ∧ σ'.r.sb = σ.r.sb ∧ σ'.r.cl = σ.r.cl ∧ σ'.cs = σ.cs ∧ σ'.p = σ.p ∧ σ'.A.ab = σ.A.ab ∧ σ'.eb = σ.eb ∧ σ'.s.lg.length < 1000000)
    (hdo : ∀ R W, Mem B w0 (σ.L B ++ R) W → Ch (fun _ => False) w W → Calls Tryz.prog F bs W fun e w' => ∃ hv σ', e = .returned (.int .u64 hv) ∧ Mem B w0 (σ'.L B ++ R) w' ∧ P hv σ') :
    Calls Tryz.prog 15 #[.pointer (some ⟨σ.g, 0, none⟩)] w fun e w' => ∃ hv σ', e = .returned (.tuple #[stepV σ.r.cl σ.r.ph (decide (σ.s.lg.length < σ'.s.lg.length)) hv σ'.r.done σ'.r.done, .int .i64 0]) ∧ Mem B w0 (σ'.L B ++ R) w' ∧ P hv σ' := by
  have HM := hid M
  have HO := hid O
  have HP := hid hP
  have HDO := hid hdo
  have HDV := hid hdv
  have lg := (m_rd M).lt
  have a0 : w.cell? ⟨σ.g, 0, none⟩ = some (.pointer (some ⟨σ.r.sb, 0, none⟩)) := (m_rd M).cell 0
  have a10 : w.cell? ⟨σ.g, 10, none⟩ = some (.bool true) := ((m_rd M).cell 10).trans (by rw [← hb]; rfl)
  clear M O hP hdo hdv hb
  go_enter Tryz.func15, Tryz.ntmps15
  go_wp2_with fail
  refine calls_world fun W1 hW1 => ?_
  have C1 := hid (show Ch (fun _ => False) w W1 from by rw [hW1]; exact (Ch.refl _ w).alloc _)
  have Z1 := hid (show Blk W1 w.heap.size 57 #[.int .i64 0, .int .u8 0, .bool false, .int .u64 0, .bool false, .bool false] from by rw [hW1]; exact Blk.new w _ _)
  clear hW1
  have M1 := hid (HM.out.keep C1.out)
  refine (sbank_any W1 (m_st M1.out) HO.out.stf).mono ?_
  rintro e w' ⟨rfl, rfl⟩
  go_wp2_with fail
  refine (len_any B σ.p σ.cb σ.lv σ.s W1 (m_bk M1.out)).mono ?_
  rintro e w' ⟨rfl, rfl⟩
  clear a0 a10
  have a1 : W1.cell? ⟨σ.g, 1, none⟩ = some (.int .i64 σ.r.cl) := (m_rd M1.out).cell 1
  have a11 : W1.cell? ⟨σ.g, 11, none⟩ = some (.int .u8 σ.r.ph) := (m_rd M1.out).cell 11
  go_wp2_with fail
  obtain ⟨S, hS⟩ : ∃ S : Nat → Prop, ∀ k, S k ↔ k < W1.heap.size := ⟨_, fun _ => Iff.rfl⟩
  have hSp1 : Mix.Has S σ.g := (hS _).2 (m_rd M1.out).lt
  have HSS := hid hS
  clear hS
  refine Mix.wp_region_mix S (fun i => ([1, 1, 1, 4, 1, 1, 1, 4, 1, 3, 2] : List Nat).getD i 0) [0, 1, 2, 3, 4, 5, 6, 7, 8, 9, 10] (by kernel_rfl) (by kernel_rfl) ?_
  repeat (first | (refine Mix.mix_q (by simp only [List.getElem?_toArray, List.getElem?_cons_zero, List.getElem?_cons_succ]; exact rfl) rfl ?_; go_big_quiet_step (fail); refine wpQuiet_nil ?_) | (refine Mix.mix_p (by simp only [List.getElem?_toArray, List.getElem?_cons_zero, List.getElem?_cons_succ]; exact rfl) rfl rfl ?_; go_big_quiet_step (fail); refine wpQuiet_nil ?_) | (refine Mix.mix_s (by simp only [List.getElem?_toArray, List.getElem?_cons_zero, List.getElem?_cons_succ]; exact rfl) rfl rfl ?_; go_big_quiet_step (fail); refine wpQuiet_nil ?_))
  refine Mix.mix_a (by simp only [List.getElem?_toArray, List.getElem?_cons_zero, List.getElem?_cons_succ]; exact rfl) rfl fun W2 hW2 => ?_
  obtain ⟨k2, rfl⟩ := hW2
  go_wp2_with fail
  refine ⟨fun k hk => Below.heap_alloc _ _ k ((HSS.out k).1 hk), Mix.mix_world fun W3 hW3 => ?_⟩
  obtain ⟨zb, hzb⟩ : ∃ z, z = W1.heap.size := ⟨_, rfl⟩
  have C3 := hid (show Ch (fun _ => False) w W3 from by rw [hW3]; first | exact (C1.out.drewN k2).alloc _ | exact C1.out.trans (Ch.push rfl rfl rfl rfl) (fun _ _ h => h))
  have Z3 := hid (show Blk W3 w.heap.size 57 #[.int .i64 0, .int .u8 0, .bool false, .int .u64 0, .bool false, .bool false] from by rw [hW3]; exact (Z1.out.drewN k2).alloc _)
  have Y3 := hid (show Blk W3 zb 57 #[.int .i64 0, .int .u8 0, .bool false, .int .u64 0, .bool false, .bool false] from by rw [hW3, hzb]; first | exact Blk.new (W1.drewN k2) _ _ | exact Blk.push rfl)
  have nz := hid (show w.heap.size < zb from by have := Z1.out.lt; omega)
  rw [← hzb]
  clear hW3 hzb a1 a11
  have M3 := hid (HM.out.keep C3.out)
  have y0 : W3.cell? ⟨zb, 0, none⟩ = some (.int .i64 0) := Y3.out.cell 0
  have g0 := Y3.out.free 0
  have y1 : W3.cell? ⟨zb, 1, none⟩ = some (.int .u8 0) := Y3.out.cell 1
  have g1 := Y3.out.free 1
  have y2 : W3.cell? ⟨zb, 2, none⟩ = some (.bool false) := Y3.out.cell 2
  have g2 := Y3.out.free 2
  have y3 : W3.cell? ⟨zb, 3, none⟩ = some (.int .u64 0) := Y3.out.cell 3
  have g3 := Y3.out.free 3
  have y4 : W3.cell? ⟨zb, 4, none⟩ = some (.bool false) := Y3.out.cell 4
  have g4 := Y3.out.free 4
  have y5 : W3.cell? ⟨zb, 5, none⟩ = some (.bool false) := Y3.out.cell 5
  have g5 := Y3.out.free 5
  repeat (first | (refine Mix.mix_q (by simp only [List.getElem?_toArray, List.getElem?_cons_zero, List.getElem?_cons_succ]; exact rfl) rfl ?_; go_big_quiet_step (fail); refine wpQuiet_nil ?_) | (refine Mix.mix_p (by simp only [List.getElem?_toArray, List.getElem?_cons_zero, List.getElem?_cons_succ]; exact rfl) rfl rfl ?_; go_big_quiet_step (fail); refine wpQuiet_nil ?_) | (refine Mix.mix_s (by simp only [List.getElem?_toArray, List.getElem?_cons_zero, List.getElem?_cons_succ]; exact rfl) rfl rfl ?_; go_big_quiet_step (fail); refine wpQuiet_nil ?_))
  refine Mix.mix_e (by simp only [List.getElem?_toArray, List.getElem?_cons_zero, List.getElem?_cons_succ]; exact rfl) rfl fun W4 hW4 => ?_
  obtain ⟨k4, rfl⟩ := hW4
  go_wp2_with fail
  intro k5
  refine at_world fun W6 hW6 => ?_
  have C6 := hid (show Ch (fun _ => False) w W6 from by rw [hW6]; exact (((((((C3.out.drewN k4).set (fun h => absurd h (by have := nz.out; omega)) _).set (fun h => absurd h (by have := nz.out; omega)) _).set (fun h => absurd h (by have := nz.out; omega)) _).set (fun h => absurd h (by have := nz.out; omega)) _).set (fun h => absurd h (by have := nz.out; omega)) _).set (fun h => absurd h (by have := nz.out; omega)) _).drewN k5)
  have Z6 := hid (show Blk W6 w.heap.size 57 #[.int .i64 0, .int .u8 0, .bool false, .int .u64 0, .bool false, .bool false] from by rw [hW6]; exact (((((((Z3.out.drewN k4).far (Nat.ne_of_lt nz.out) _).far (Nat.ne_of_lt nz.out) _).far (Nat.ne_of_lt nz.out) _).far (Nat.ne_of_lt nz.out) _).far (Nat.ne_of_lt nz.out) _).far (Nat.ne_of_lt nz.out) _).drewN k5)
  have Y6 := hid (show Blk W6 zb 57 #[.int .i64 σ.r.cl, .int .u8 σ.r.ph, .bool false, .int .u64 0, .bool false, .bool false] from by rw [hW6]; exact (((((((Y3.out.drewN k4).put 0 _).put 1 _).put 2 _).put 3 _).put 4 _).put 5 _).drewN k5)
  clear hW6 y0 g0 y1 g1 y2 g2 y3 g3 y4 g4 y5 g5
  have M6 := hid (HM.out.keep C6.out)
  have a12 : W6.cell? ⟨σ.g, 12, none⟩ = some (.func (.func F) #[] bs) := ((m_rd M6.out).cell 12).trans (by rw [← HDV.out]; rfl)
  have MF := mem_front2 HM.out C6.out Z6.out Y6.out (Nat.le_refl _) (Nat.le_of_lt nz.out) (Nat.ne_of_lt nz.out)
  have MX6 := hid (show Mem B w0 (σ.L B ++ (R ++ [blkR w.heap.size 57 #[.int .i64 0, .int .u8 0, .bool false, .int .u64 0, .bool false, .bool false], blkR zb 57 #[.int .i64 σ.r.cl, .int .u8 σ.r.ph, .bool false, .int .u64 0, .bool false, .bool false]])) W6 from by
    rw [← List.append_assoc]
    exact MF.perm List.perm_append_comm)
  clear MF
  go_wp2_with fail
  refine (HDO.out _ W6 MX6.out C6.out).mono ?_
  rintro e w7 ⟨hv, σ', rfl, hM7, hP7⟩
  obtain ⟨q1, q2, q3, q4, q5, q6, q7, q8⟩ := HP.out hv σ' hP7
  have HPV := hid hP7
  have MX7 := hid (show Mem B w0 ([blkR w.heap.size 57 #[.int .i64 0, .int .u8 0, .bool false, .int .u64 0, .bool false, .bool false], blkR zb 57 #[.int .i64 σ.r.cl, .int .u8 σ.r.ph, .bool false, .int .u64 0, .bool false, .bool false]] ++ (σ'.L B ++ R)) w7 from by
    rw [← List.append_assoc] at hM7
    exact hM7.perm List.perm_append_comm)
  have HQ1 := hid q1
  have HQ2 := hid q2
  have HSTF := hid (show StF σ'.cs σ'.p σ'.A.ab σ'.eb y from by rw [q4, q5, q6, q7]; exact HO.out.stf)
  have HQ8 := hid q8
  have gz1 : σ.g ≠ zb := by have := nz.out; omega
  have gz2 : zb ≠ σ.g := Ne.symm gz1
  have rz1 : w.heap.size ≠ zb := Nat.ne_of_lt nz.out
  have rz2 : zb ≠ w.heap.size := Ne.symm rz1
  clear hM7 hP7 a12 q1 q2 q3 q4 q5 q6 q7 q8
  have Y7 := hid (MX7.out.each 1 _ rfl)
  have b0 : w7.cell? ⟨σ.g, 0, none⟩ = some (.pointer (some ⟨σ.r.sb, 0, none⟩)) := by
    have := (m_rd (show Mem B w0 (σ'.L B ++ R) w7 from MX7.out.drop 2)).cell 0
    rw [HQ1.out] at this
    rw [← HQ2.out]
    exact this
  have y3 : w7.cell? ⟨zb, 3, none⟩ = some (.int .u64 0) := Y7.out.cell 3
  have g3 := Y7.out.free 3
  go_wp2_with fail
  refine calls_world fun W8 hW8 => ?_
  have MX8 := hid (show Mem B w0 ([blkR w.heap.size 57 #[.int .i64 0, .int .u8 0, .bool false, .int .u64 0, .bool false, .bool false], blkR zb 57 #[.int .i64 σ.r.cl, .int .u8 σ.r.ph, .bool false, .int .u64 hv, .bool false, .bool false]] ++ (σ'.L B ++ R)) W8 from by rw [hW8]; exact MX7.out.put (i := 1) rfl 3 (.int .u64 hv))
  clear hW8 b0 y3 g3
  have M8 := hid (show Mem B w0 (σ'.L B ++ R) W8 from MX8.out.drop 2)
  have hst8 := m_st M8.out
  rw [HQ2.out] at hst8
  have HST8 := hid hst8
  clear hst8
  refine (sbank_any W8 HST8.out HSTF.out).mono ?_
  rintro e w' ⟨rfl, rfl⟩
  go_wp2_with fail
  refine (len_any B σ'.p σ'.cb σ'.lv σ'.s W8 (m_bk M8.out)).mono ?_
  rintro e w' ⟨rfl, rfl⟩
  have Y8 := hid (MX8.out.each 1 _ rfl)
  have y2 : W8.cell? ⟨zb, 2, none⟩ = some (.bool false) := Y8.out.cell 2
  have g2 := Y8.out.free 2
  obtain ⟨la, hla⟩ : ∃ x, x = σ.s.lg.length := ⟨_, rfl⟩
  obtain ⟨lb, hlb⟩ : ∃ x, x = σ'.s.lg.length := ⟨_, rfl⟩
  rw [← hla, ← hlb]
  have HLA := hid hla
  have HLB := hid hlb
  clear hla hlb
  go_wp2_with fail
  refine at_world fun W9 hW9 => ?_
  obtain ⟨ac, hac⟩ : ∃ x : Bool, x = decide (la < lb) := ⟨_, rfl⟩
  have HAC := hid hac
  have MX9 := hid (show Mem B w0 ([blkR w.heap.size 57 #[.int .i64 0, .int .u8 0, .bool false, .int .u64 0, .bool false, .bool false], blkR zb 57 #[.int .i64 σ.r.cl, .int .u8 σ.r.ph, .bool ac, .int .u64 hv, .bool false, .bool false]] ++ (σ'.L B ++ R)) W9 from by rw [hW9, hac]; first | exact MX8.out.put (i := 1) rfl 2 _ | exact (by simpa using MX8.out.put (i := 1) rfl 2 (.bool (decide (la < lb)))))
  clear hW9 y2 g2 hac
  obtain ⟨dn, hdn⟩ : ∃ x, x = σ'.r.done := ⟨_, rfl⟩
  have HDN := hid hdn
  have d13 : W9.cell? ⟨σ.g, 13, none⟩ = some (.bool dn) := by
    have := (m_rd (show Mem B w0 (σ'.L B ++ R) W9 from MX9.out.drop 2)).cell 13
    rw [HQ1.out] at this
    rw [hdn]
    exact this
  have lg9 := (m_rd (show Mem B w0 (σ'.L B ++ R) W9 from MX9.out.drop 2)).lt
  rw [HQ1.out] at lg9
  have Y9 := hid (MX9.out.each 1 _ rfl)
  have y4 : W9.cell? ⟨zb, 4, none⟩ = some (.bool false) := Y9.out.cell 4
  have y5 : W9.cell? ⟨zb, 5, none⟩ = some (.bool false) := Y9.out.cell 5
  have g4 := Y9.out.free 4
  have g5 := Y9.out.free 5
  clear hdn
  obtain ⟨S, hS⟩ : ∃ S : Nat → Prop, ∀ k, S k ↔ k = σ.g := ⟨_, fun _ => Iff.rfl⟩
  have hSp2 : Mix.Has S σ.g := (hS _).2 rfl
  have HS2 := hid hS
  clear hS
  refine Mix.wp_region_mix S (fun i => ([0, 0, 0, 0, 1, 1, 1, 4, 0, 3, 0, 2] : List Nat).getD i 0) [0, 1, 2, 3, 4, 5, 6, 7, 8, 9, 10, 11] (by kernel_rfl) (by kernel_rfl) ?_
  repeat (first | (refine Mix.mix_q (by simp only [List.getElem?_toArray, List.getElem?_cons_zero, List.getElem?_cons_succ]; exact rfl) rfl ?_; go_big_quiet_step (fail); refine wpQuiet_nil ?_) | (refine Mix.mix_p (by simp only [List.getElem?_toArray, List.getElem?_cons_zero, List.getElem?_cons_succ]; exact rfl) rfl rfl ?_; go_big_quiet_step (fail); refine wpQuiet_nil ?_) | (refine Mix.mix_s (by simp only [List.getElem?_toArray, List.getElem?_cons_zero, List.getElem?_cons_succ]; exact rfl) rfl rfl ?_; go_big_quiet_step (fail); refine wpQuiet_nil ?_))
  refine Mix.mix_a (by simp only [List.getElem?_toArray, List.getElem?_cons_zero, List.getElem?_cons_succ]; exact rfl) rfl fun W10 hW10 => ?_
  obtain ⟨k10, rfl⟩ := hW10
  go_wp2_with fail
  refine ⟨fun k hk => by rw [(HS2.out k).1 hk]; exact (((Ch.refl (fun b => b = zb) W9).drewN k10).set (fun _ => rfl) _).block _ lg9 gz1, ?_⟩
  repeat (first | (refine Mix.mix_q (by simp only [List.getElem?_toArray, List.getElem?_cons_zero, List.getElem?_cons_succ]; exact rfl) rfl ?_; go_big_quiet_step (fail); refine wpQuiet_nil ?_) | (refine Mix.mix_p (by simp only [List.getElem?_toArray, List.getElem?_cons_zero, List.getElem?_cons_succ]; exact rfl) rfl rfl ?_; go_big_quiet_step (fail); refine wpQuiet_nil ?_) | (refine Mix.mix_s (by simp only [List.getElem?_toArray, List.getElem?_cons_zero, List.getElem?_cons_succ]; exact rfl) rfl rfl ?_; go_big_quiet_step (fail); refine wpQuiet_nil ?_))
  refine Mix.mix_e (by simp only [List.getElem?_toArray, List.getElem?_cons_zero, List.getElem?_cons_succ]; exact rfl) rfl fun W11 hW11 => ?_
  obtain ⟨k11, rfl⟩ := hW11
  go_wp2_with fail
  intro k12
  refine at_world fun W13 hW13 => ?_
  have MX13 := hid (show Mem B w0 ([blkR w.heap.size 57 #[.int .i64 0, .int .u8 0, .bool false, .int .u64 0, .bool false, .bool false], blkR zb 57 #[.int .i64 σ.r.cl, .int .u8 σ.r.ph, .bool ac, .int .u64 hv, .bool dn, .bool dn]] ++ (σ'.L B ++ R)) W13 from by rw [hW13]; exact ((((MX9.out.drewN k10).put (i := 1) rfl 4 (.bool dn)).drewN k11).put (i := 1) rfl 5 (.bool dn)).drewN k12)
  clear hW13 d13 lg9 y4 y5 g4 g5
  have Y13 := hid (MX13.out.each 1 _ rfl)
  have Z13 := hid (MX13.out.each 0 _ rfl)
  have y0 : W13.cell? ⟨zb, 0, none⟩ = some (.int .i64 σ.r.cl) := Y13.out.cell 0
  have r0 : W13.cell? ⟨w.heap.size, 0, none⟩ = some (.int .i64 0) := Z13.out.cell 0
  have q0 := Z13.out.free 0
  have y1 : W13.cell? ⟨zb, 1, none⟩ = some (.int .u8 σ.r.ph) := Y13.out.cell 1
  have r1 : W13.cell? ⟨w.heap.size, 1, none⟩ = some (.int .u8 0) := Z13.out.cell 1
  have q1 := Z13.out.free 1
  have y2 : W13.cell? ⟨zb, 2, none⟩ = some (.bool ac) := Y13.out.cell 2
  have r2 : W13.cell? ⟨w.heap.size, 2, none⟩ = some (.bool false) := Z13.out.cell 2
  have q2 := Z13.out.free 2
  have y3 : W13.cell? ⟨zb, 3, none⟩ = some (.int .u64 hv) := Y13.out.cell 3
  have r3 : W13.cell? ⟨w.heap.size, 3, none⟩ = some (.int .u64 0) := Z13.out.cell 3
  have q3 := Z13.out.free 3
  have y4 : W13.cell? ⟨zb, 4, none⟩ = some (.bool dn) := Y13.out.cell 4
  have r4 : W13.cell? ⟨w.heap.size, 4, none⟩ = some (.bool false) := Z13.out.cell 4
  have q4 := Z13.out.free 4
  have y5 : W13.cell? ⟨zb, 5, none⟩ = some (.bool dn) := Y13.out.cell 5
  have r5 : W13.cell? ⟨w.heap.size, 5, none⟩ = some (.bool false) := Z13.out.cell 5
  have q5 := Z13.out.free 5
  go_wp2_with fail
  refine at_world fun WZ hWZ => ?_
  have MXZ := hid (show Mem B w0 ([blkR w.heap.size 57 #[.int .i64 σ.r.cl, .int .u8 σ.r.ph, .bool ac, .int .u64 hv, .bool dn, .bool dn], blkR zb 57 #[.int .i64 σ.r.cl, .int .u8 σ.r.ph, .bool ac, .int .u64 hv, .bool dn, .bool dn]] ++ (σ'.L B ++ R)) WZ from by rw [hWZ]; exact ((((((MX13.out.put (i := 0) rfl 0 _).put (i := 0) rfl 1 _).put (i := 0) rfl 2 _).put (i := 0) rfl 3 _).put (i := 0) rfl 4 _).put (i := 0) rfl 5 _))
  clear hWZ y0 r0 q0 y1 r1 q1 y2 r2 q2 y3 r3 q3 y4 r4 q4 y5 r5 q5
  have BZ := hid (MXZ.out.each 0 _ rfl)
  have t0 : WZ.cell? ⟨w.heap.size, 0, none⟩ = some (.int .i64 σ.r.cl) := BZ.out.cell 0
  have t1 : WZ.cell? ⟨w.heap.size, 1, none⟩ = some (.int .u8 σ.r.ph) := BZ.out.cell 1
  have t2 : WZ.cell? ⟨w.heap.size, 2, none⟩ = some (.bool ac) := BZ.out.cell 2
  have t3 : WZ.cell? ⟨w.heap.size, 3, none⟩ = some (.int .u64 hv) := BZ.out.cell 3
  have t4 : WZ.cell? ⟨w.heap.size, 4, none⟩ = some (.bool dn) := BZ.out.cell 4
  have t5 : WZ.cell? ⟨w.heap.size, 5, none⟩ = some (.bool dn) := BZ.out.cell 5
  refine bodyPost_ret (v := .tuple #[.agg #[.int .i64 σ.r.cl, .int .u8 σ.r.ph, .bool ac, .int .u64 hv, .bool dn, .bool dn], .int .i64 0]) (by simp [results, Tryz.results15, go_sem, t0, t1, t2, t3, t4, t5]) rfl ⟨hv, σ', ?_, MXZ.out.drop 2, HPV.out⟩
  rw [← HLA.out, ← HLB.out, ← HAC.out, ← HDN.out]
  rfl
end
structure Bx where
  g : Nat
  t : TypeId
  cs : Array Value
def boxR (bs : List Bx) : Res where
  holds w := ∀ b ∈ bs, Blk w b.g b.t b.cs
  foot k := ∃ b ∈ bs, k = b.g
  stable h c hn := fun b hb => c.blk (h b hb) (hn _ ⟨b, hb, rfl⟩)
  lt h k hk := by
    obtain ⟨b, hb, rfl⟩ := hk
    exact (h b hb).lt
def RevOk (ns : List An) (x : Rv) (tx : List UInt8) : Prop :=
  x.b = (mL tx).b ∧ x.r = (mL tx).r ∧ x.l = (mL tx).l ∧ ((tx = [] ∧ x.h = 0) ∨ ∃ ix t, x.at' = hdl ix ∧ Nt ns ix t ∧ t.text = tx ∧ x.h = (t.ht : Int) ∧ t.good ∧ ∃ s : ByteArray, buildT s = [t])
theorem RevOk.app {ns : List An} {x : Rv} {tx : List UInt8} (h : RevOk ns x tx) (ys : List An) : RevOk (ns ++ ys) x tx := by
  obtain ⟨h1, h2, h3, h4⟩ := h
  refine ⟨h1, h2, h3, ?_⟩
  rcases h4 with h4 | ⟨ix, t, a, b, c⟩
  · exact .inl h4
  · exact .inr ⟨ix, t, a, b.app, c⟩
structure RnOk (σ : RS) (y : Ly) (n m : Nat) (ts : List (List UInt8)) (hk : Option Nat) : Prop where
  O : σ.Ok y n m
  P : ArP σ.ns
  nt : ts.length = σ.rs.length
  t8 : ts.length ≤ 200
  tl : ∀ tx ∈ ts, tx.length ≤ 100000
  rv : ∀ (i : Nat) (r : RvS) (tx : List UInt8), σ.rs[i]? = some r → ts[i]? = some tx → RevOk σ.ns r.x tx ∧ r.x.num = 3 * (i : Int) ∧ r.ms.length ≤ 4 ∧ r.ds.length ≤ 4
  rt : ∃ i : Nat, lk σ.s.vs 1 = (i : Int) ∧ i < ts.length
  sn : ∀ (k : Nat) (s : Snp), σ.sl[k]? = some (some s) → ∃ (i : Nat) (r : RvS), σ.rs[i]? = some r ∧ s.x = r.x ∧ s.ms = r.ms ∧ s.ix = (i : Int) ∧ 0 ≤ s.cu ∧ s.cu ≤ s.x.b
  pn : ∀ k, k < n → hk ≠ some k → (σ.sl[k]? = some none ∧ σ.ps[m + k]? = some none ∧ lk σ.s.vs (σ.f.slot (m + k)) = 0) ∨ (∃ s g q, σ.sl[k]? = some (some s) ∧ σ.ps[m + k]? = some (some (g, q)) ∧ q.ph = 0 ∧ lk σ.s.vs (σ.f.slot (m + k)) ≠ 0)
  ep : 0 ≤ lk σ.s.vs σ.f.ep ∧ lk σ.s.vs σ.f.ep < 1000000
  en : ∀ i, i < σ.f.n → σ.f.slot i ≠ σ.f.ep
inductive Pg
  | fin (x : RsV)
  | loc (x : RsV)
  | clos
  | ep (k : Nat)
  | ann (k : Nat) (v : Int)
  | root (k : Nat)
  | rel (k : Nat)
  | seek (k : Nat) (pos : Int)
  | take (k : Nat) (a : Bool) (pos : Int)
  | byte (k : Nat) (a : Bool) (tx : List UInt8) (p0 N d ix : Nat) (rest : Int) (base : Ms)
  | rune (k : Nat) (tx : List UInt8) (q ix : Nat) (rest : Int) (base : Ms)
  | line (k : Nat) (tx : List UInt8) (q ix : Nat) (rest : Int) (base : Ms)
def Pg.hk : Pg → Option Nat
  | .ep k => some k
  | .ann k _ => some k
  | .root k => some k
  | _ => none
def Pg.ended : Pg → Bool
  | .fin _ => true
  | _ => false
def Acq (σ : RS) (n m k : Nat) (ph : Int) (v : Int) : Prop := σ.r.op = acqOp ∧ σ.r.slot = (k : Int) ∧ k < n ∧ σ.sl[k]? = some none ∧ ∃ g q, σ.r.pin = .pointer (some ⟨g, 0, none⟩) ∧ σ.ps[m + k]? = some (some (g, q)) ∧ q.t = σ.r.cl ∧ q.slot = m + k ∧ q.ph = ph ∧ (ph = 10 → q.seen = v)
def Shows (σ : RS) (ts : List (List UInt8)) (k : Nat) (tx : List UInt8) : Prop := ∃ (s : Snp) (i : Nat), σ.sl[k]? = some (some s) ∧ s.ix = (i : Int) ∧ ts[i]? = some tx
def PgAt (σ : RS) (bs : List Bx) (n m : Nat) (ts : List (List UInt8)) : Pg → Prop
  | .fin x => σ.r.busy = false ∧ σ.r.ph = 0 ∧ σ.r.rs = x
  | .loc x => σ.r.busy = true ∧ σ.r.done = false ∧ σ.r.ph = 1 ∧ ∃ rb xb, σ.r.dv = locV rb xb ∧ bs = [⟨rb, 45, #[.pointer (some ⟨σ.g, 0, none⟩)]⟩, ⟨xb, 41, x.arr⟩]
  | .clos => σ.r.busy = true ∧ σ.r.done = false ∧ σ.r.ph = 2 ∧ σ.r.dv = closedF σ.g ∧ σ.r.op = acqOp
  | .ep k => σ.r.busy = true ∧ σ.r.done = false ∧ σ.r.ph = 9 ∧ σ.r.dv = loadF σ.g ∧ Acq σ n m k 9 0
  | .ann k v => σ.r.busy = true ∧ σ.r.done = false ∧ σ.r.ph = 10 ∧ σ.r.dv = loadF σ.g ∧ Acq σ n m k 10 v ∧ 0 ≤ v ∧ v < 1000000
  | .root k => σ.r.busy = true ∧ σ.r.done = false ∧ σ.r.ph = 11 ∧ σ.r.dv = rootF σ.g ∧ Acq σ n m k 0 0 ∧ lk σ.s.vs (σ.f.slot (m + k)) ≠ 0
  | .rel k => σ.r.busy = true ∧ σ.r.done = false ∧ σ.r.ph = 10 ∧ σ.r.dv = releaseF σ.g ∧ σ.r.op.sl = (k : Int) ∧ k < n ∧ ∃ s, σ.sl[k]? = some (some s)
  | .seek k pos => σ.r.busy = true ∧ σ.r.done = false ∧ σ.r.ph = 1 ∧ ∃ ob zb rb s op, σ.r.dv = seekV ob zb rb ∧ σ.sl[k]? = some (some s) ∧ op.at' = pos ∧ 0 ≤ pos ∧ pos ≤ s.x.b ∧ bs = [⟨ob, 26, OpV.arr op⟩, ⟨zb, 140, #[.pointer (some ⟨s.g, 0, none⟩)]⟩, ⟨rb, 45, #[.pointer (some ⟨σ.g, 0, none⟩)]⟩]
  | .take k a pos => σ.r.busy = true ∧ σ.r.done = false ∧ σ.r.ph = 1 ∧ σ.r.dv = takenF σ.g ∧ σ.r.op.k = (if a then 12 else 7) ∧ σ.r.op.sl = (k : Int) ∧ σ.tx = [] ∧ σ.r.next = pos ∧ ∃ s, σ.sl[k]? = some (some s) ∧ 0 ≤ pos ∧ pos ≤ s.x.b
  | .byte k a tx p0 N d ix rest base => σ.r.busy = true ∧ σ.r.done = false ∧ σ.r.ph = 12 ∧ σ.r.dv = visF σ.g ∧ σ.r.op.k = (if a then 12 else 7) ∧ σ.r.op.sl = (k : Int) ∧ Shows σ ts k tx ∧ σ.r.at' = hdl ix ∧ σ.r.rest = rest ∧ σ.r.base = base ∧ σ.r.next = ((p0 + d : Nat) : Int) ∧ σ.r.need = ((N - d : Nat) : Int) ∧ d < N ∧ p0 + N ≤ tx.length ∧ σ.tx = (tx.drop p0).take d ∧ Dn (fun m => m.b) tx σ.ns ix ((p0 + d : Nat) : Int) rest base
  | .rune k tx q ix rest base => σ.r.busy = true ∧ σ.r.done = false ∧ σ.r.ph = 12 ∧ σ.r.dv = visRF σ.g ∧ Shows σ ts k tx ∧ σ.r.at' = hdl ix ∧ σ.r.rest = rest ∧ σ.r.base = base ∧ Dn (fun m => m.r) tx σ.ns ix (q : Int) rest base
  | .line k tx q ix rest base => σ.r.busy = true ∧ σ.r.done = false ∧ σ.r.ph = 12 ∧ σ.r.dv = visLF σ.g ∧ Shows σ ts k tx ∧ σ.r.at' = hdl ix ∧ σ.r.rest = rest ∧ σ.r.base = base ∧ Dn (fun m => m.l) tx σ.ns ix (q : Int) (rest - 1) base
structure Same (σ σ' : RS) : Prop where
  g : σ'.g = σ.g
  sb : σ'.r.sb = σ.r.sb
  cl : σ'.r.cl = σ.r.cl
  lb : σ'.lb = σ.lb
  cs : σ'.cs = σ.cs
  p : σ'.p = σ.p
  cb : σ'.cb = σ.cb
  eb : σ'.eb = σ.eb
  f : σ'.f = σ.f
  sc : σ'.sc = σ.sc
  pb : σ'.pb = σ.pb
  rv : σ'.rv = σ.rv
  rs : σ'.rs = σ.rs
  A : σ'.A = σ.A
  ns : σ'.ns = σ.ns
  st : σ'.st = σ.st
def Nxt (σ σ' : RS) (m : Nat) (hv : Int) (pg' : Pg) : Pg → Prop
  | .fin _ => False
  | .loc x => hv = 0 ∧ σ'.s = σ.s ∧ σ'.sl = σ.sl ∧ pg' = .fin x
  | .clos => hv = 0 ∧ σ'.s = σ.s.load σ.r.cl 0 ∧ σ'.sl = σ.sl ∧ ((lk σ.s.vs 0 ≠ 0 ∧ pg' = .fin { RsV.zero with er := 13 }) ∨ (lk σ.s.vs 0 = 0 ∧ free1 (σ.sl.map sptr) 0 < 0 ∧ pg' = .fin { RsV.zero with er := 15 }) ∨ (lk σ.s.vs 0 = 0 ∧ ∃ k : Nat, free1 (σ.sl.map sptr) 0 = (k : Int) ∧ pg' = .ep k))
  | .ep k => hv = 0 ∧ σ'.s = σ.s.load σ.r.cl σ.f.ep ∧ σ'.sl = σ.sl ∧ pg' = .ann k (lk σ.s.vs σ.f.ep)
  | .ann k v => hv = 0 ∧ σ'.s = σ.s.store σ.r.cl (σ.f.slot (m + k) : Nat) (v + 1) ∧ σ'.sl = σ.sl ∧ pg' = .root k
  | .root k => hv = 0 ∧ σ'.s = σ.s.load σ.r.cl 1 ∧ ∃ (i : Nat) (r : RvS) (s : Snp), lk σ.s.vs 1 = (i : Int) ∧ σ.rs[i]? = some r ∧ s.x = r.x ∧ s.ms = r.ms ∧ s.ix = (i : Int) ∧ s.cu = 0 ∧ σ'.sl = σ.sl.set k (some s) ∧ pg' = .fin { RsV.zero with sl := (k : Int), rev := r.x.num }
  | .rel k => hv = 0 ∧ σ'.s = σ.s.store σ.r.cl (σ.f.slot (m + k) : Nat) 0 ∧ σ'.sl = σ.sl.set k none ∧ pg' = .fin RsV.zero
  | .seek k pos => hv = 0 ∧ σ'.s = σ.s ∧ (∃ s, σ.sl[k]? = some (some s) ∧ σ'.sl = σ.sl.set k (some { s with cu := pos })) ∧ pg' = .fin { RsV.zero with at' := pos }
  | .take k a pos => hv = 0 ∧ σ'.s = σ.s ∧ (if a then ∃ s, σ.sl[k]? = some (some s) ∧ σ'.sl = σ.sl.set k (some { s with cu := pos }) else σ'.sl = σ.sl) ∧ pg' = .fin { RsV.zero with at' := if a then pos else 0 }
  | .byte k a tx p0 N d ix rest base => hv = hdl ix ∧ σ'.s = σ.s ∧ ∃ z, σ.ns[ix]? = some z ∧
      ((z.x.h ≠ 0 ∧ σ'.sl = σ.sl ∧ ∃ (ci : Nat) (k' : Kd) (q : Int), z.x.ks[ci]? = some k' ∧ Chosen (fun m => m.b) (z.x.ks.map Kd.m) rest ci q ∧ pg' = .byte k a tx p0 N d k'.at' q (bsK base z.x.ks ci)) ∨
       (z.x.h = 0 ∧ ∃ c rn : Nat, rest = (rn : Int) ∧ c = min (N - d) (z.x.s.size - rn) ∧
         ((d + c < N ∧ σ'.sl = σ.sl ∧ ∃ jx, pg' = .byte k a tx p0 N (d + c) jx ((p0 + (d + c) : Nat) : Int) ⟨0, 0, 0⟩ ∧ ∃ s, σ.sl[k]? = some (some s) ∧ s.x.at' = hdl jx) ∨
          (d + c = N ∧ (if a then ∃ s, σ.sl[k]? = some (some s) ∧ σ'.sl = σ.sl.set k (some { s with cu := ((p0 + N : Nat) : Int) }) else σ'.sl = σ.sl) ∧ pg' = .fin { RsV.zero with s := ⟨((tx.drop p0).take N).toArray⟩, at' := if a then ((p0 + N : Nat) : Int) else 0 }))))
  | .rune k tx q ix rest base => hv = hdl ix ∧ σ'.s = σ.s ∧ σ'.sl = σ.sl ∧ ∃ z, σ.ns[ix]? = some z ∧
      ((z.x.h ≠ 0 ∧ ∃ (ci : Nat) (k' : Kd) (r : Int), z.x.ks[ci]? = some k' ∧ Chosen (fun m => m.r) (z.x.ks.map Kd.m) rest ci r ∧ pg' = .rune k tx q k'.at' r (bsK base z.x.ks ci)) ∨
       (z.x.h = 0 ∧ pg' = .fin { RsV.zero with at' := ((nthP begB (u8s tx) q : Nat) : Int) }))
  | .line k tx q ix rest base => hv = hdl ix ∧ σ'.s = σ.s ∧ σ'.sl = σ.sl ∧ ∃ z, σ.ns[ix]? = some z ∧
      ((z.x.h ≠ 0 ∧ ∃ (ci : Nat) (k' : Kd) (r : Int), z.x.ks[ci]? = some k' ∧ Chosen (fun m => m.l) (z.x.ks.map Kd.m) (rest - 1) ci r ∧ pg' = .line k tx q k'.at' (r + 1) (bsK base z.x.ks ci)) ∨
       (z.x.h = 0 ∧ pg' = .fin { RsV.zero with at' := ((nthP isLF (u8s tx) q : Nat) : Int) + 1 }))
def StepTo (B : Nat) (w0 : World) (R : List Res) (σ : RS) (bs : List Bx) (y : Ly) (n m : Nat) (ts : List (List UInt8)) (pg : Pg) (e : Ending) (w' : World) : Prop :=
  ∃ hv σ' pg', e = .returned (.tuple #[stepV σ.r.cl σ.r.ph (decide (σ.s.lg.length < σ'.s.lg.length)) hv pg'.ended pg'.ended, .int .i64 0]) ∧ Mem B w0 (σ'.L B ++ (boxR bs :: R)) w' ∧ Same σ σ' ∧ RnOk σ' y n m ts pg'.hk ∧ PgAt σ' bs n m ts pg' ∧ Nxt σ σ' m hv pg' pg
theorem lk_set_ne {l : List Int} {i j : Nat} (v : Int) (h : i ≠ j) : lk (l.set i v) j = lk l j := by
  unfold lk
  rw [List.getD_eq_getElem?_getD, List.getD_eq_getElem?_getD, List.getElem?_set, if_neg h]
theorem lk_set_eq {l : List Int} {i : Nat} (v : Int) (h : i < l.length) : lk (l.set i v) i = v := by
  unfold lk
  rw [List.getD_eq_getElem?_getD, List.getElem?_set, if_pos rfl, if_pos h]
  rfl
theorem Same.trans {a b c : RS} (h : Same a b) (k : Same b c) : Same a c :=
  ⟨k.g.trans h.g, k.sb.trans h.sb, k.cl.trans h.cl, k.lb.trans h.lb, k.cs.trans h.cs, k.p.trans h.p, k.cb.trans h.cb, k.eb.trans h.eb, k.f.trans h.f, k.sc.trans h.sc, k.pb.trans h.pb, k.rv.trans h.rv, k.rs.trans h.rs, k.A.trans h.A, k.ns.trans h.ns, k.st.trans h.st⟩
section
variable {B : Nat} {w0 w : World} {R : List Res} {σ σ' : RS} {bs : List Bx} {y : Ly} {n m : Nat} {ts : List (List UInt8)} {hk hk' : Option Nat}
theorem RnOk.of (K : RnOk σ y n m ts hk) (S : Same σ σ') (O' : σ'.Ok y n m) (h1 : lk σ'.s.vs 1 = lk σ.s.vs 1) (h2 : lk σ'.s.vs σ.f.ep = lk σ.s.vs σ.f.ep)
    (sn' : ∀ (k : Nat) (s : Snp), σ'.sl[k]? = some (some s) → ∃ (i : Nat) (r : RvS), σ.rs[i]? = some r ∧ s.x = r.x ∧ s.ms = r.ms ∧ s.ix = (i : Int) ∧ 0 ≤ s.cu ∧ s.cu ≤ s.x.b)
    (pn' : ∀ k, k < n → hk' ≠ some k → (σ'.sl[k]? = some none ∧ σ'.ps[m + k]? = some none ∧ lk σ'.s.vs (σ.f.slot (m + k)) = 0) ∨ (∃ s g q, σ'.sl[k]? = some (some s) ∧ σ'.ps[m + k]? = some (some (g, q)) ∧ q.ph = 0 ∧ lk σ'.s.vs (σ.f.slot (m + k)) ≠ 0)) : RnOk σ' y n m ts hk' where
  O := O'
  P := by rw [S.ns]; exact K.P
  nt := by rw [S.rs]; exact K.nt
  t8 := K.t8
  tl := K.tl
  rv := by rw [S.rs, S.ns]; exact K.rv
  rt := by rw [h1]; exact K.rt
  sn := by rw [S.rs]; exact sn'
  pn := by rw [S.f]; exact pn'
  ep := by rw [S.f, h2]; exact K.ep
  en := by rw [S.f]; exact K.en
theorem RnOk.same (K : RnOk σ y n m ts hk) (S : Same σ σ') (O' : σ'.Ok y n m) (h1 : σ'.s.vs = σ.s.vs) (h2 : σ'.sl = σ.sl) (h3 : σ'.ps = σ.ps) : RnOk σ' y n m ts hk :=
  K.of S O' (by rw [h1]) (by rw [h1]) (by rw [h2]; exact K.sn) (by rw [h1, h2, h3]; exact K.pn)
theorem RnOk.free (K : RnOk σ y n m ts none) : ∀ k, k < n → (σ.sl[k]? = some none ↔ σ.ps[m + k]? = some none) := fun k hk => by
  rcases K.pn k hk (fun e => by cases e) with ⟨h1, h2, _⟩ | ⟨s, g, q, h1, h2, _⟩
  · exact ⟨fun _ => h2, fun _ => h1⟩
  · exact ⟨fun e => by rw [h1] at e; (injection e with e; cases e), fun e => by rw [h2] at e; (injection e with e; cases e)⟩
theorem slot_ne {f : Ed} {s : BS} (h : EdOk s f) {i j : Nat} (hi : i < f.n) (hj : j < f.n) (hne : i ≠ j) : f.slot i ≠ f.slot j := by
  have a := h.s i hi
  have b := h.s j hj
  unfold Ed.slot
  omega
theorem slot_ltR {f : Ed} {s : BS} (h : EdOk s f) {i : Nat} (hi : i < f.n) : f.slot i < s.vs.length := by
  have a := h.s i hi
  unfold Ed.slot
  omega
def StP (σ : RS) (bs : List Bx) (y : Ly) (n m : Nat) (ts : List (List UInt8)) (pg : Pg) (hv : Int) (σ' : RS) : Prop := Same σ σ' ∧ ∃ pg', RnOk σ' y n m ts pg'.hk ∧ PgAt σ' bs n m ts pg' ∧ Nxt σ σ' m hv pg' pg ∧ σ'.r.done = pg'.ended
theorem stp_of {pg : Pg} (M : Mem B w0 (σ.L B ++ (boxR bs :: R)) w) (O : σ.Ok y n m) (hb : σ.r.busy = true) (F : FuncId) (hdv : σ.r.dv = .func (.func F) #[.pointer (some ⟨σ.g, 0, none⟩)] #[]) (hin : ∀ W : World, (callFunc F #[.pointer (some ⟨σ.g, 0, none⟩)]).run Tryz.prog W = .ok (.enter F #[.pointer (some ⟨σ.g, 0, none⟩)]) W)
    (hdo : ∀ R W, Mem B w0 (σ.L B ++ R) W → Calls Tryz.prog F #[.pointer (some ⟨σ.g, 0, none⟩)] W fun e w' => ∃ hv σ', e = .returned (.int .u64 hv) ∧ Mem B w0 (σ'.L B ++ R) w' ∧ StP σ bs y n m ts pg hv σ') :
    Calls Tryz.prog 15 #[.pointer (some ⟨σ.g, 0, none⟩)] w (StepTo B w0 R σ bs y n m ts pg) := by
  refine (step_m M O hb F hdv hin (StP σ bs y n m ts pg) (fun hv σ' ⟨S, pg', K', _⟩ => ⟨S.g, S.sb, S.cl, S.cs, S.p, by rw [S.A], S.eb, by have := K'.O.lg; omega⟩) hdo).mono ?_
  rintro e w' ⟨hv, σ', rfl, hM, S, pg', K', hp, hn, hd⟩
  exact ⟨hv, σ', pg', by rw [hd], hM, S, K', hp, hn⟩
theorem stpb_of {pg : Pg} (M : Mem B w0 (σ.L B ++ (boxR bs :: R)) w) (O : σ.Ok y n m) (hb : σ.r.busy = true) (F : FuncId) (cs : Array Value) (hdv : σ.r.dv = .func (.func F) #[] cs) (hin : ∀ W : World, (callFunc F cs).run Tryz.prog W = .ok (.enter F cs) W)
    (hdo : ∀ R W, Mem B w0 (σ.L B ++ R) W → Ch (fun _ => False) w W → Calls Tryz.prog F cs W fun e w' => ∃ hv σ', e = .returned (.int .u64 hv) ∧ Mem B w0 (σ'.L B ++ R) w' ∧ StP σ bs y n m ts pg hv σ') :
    Calls Tryz.prog 15 #[.pointer (some ⟨σ.g, 0, none⟩)] w (StepTo B w0 R σ bs y n m ts pg) := by
  refine (step_b M O hb F cs hdv hin (StP σ bs y n m ts pg) (fun hv σ' ⟨S, pg', K', _⟩ => ⟨S.g, S.sb, S.cl, S.cs, S.p, by rw [S.A], S.eb, by have := K'.O.lg; omega⟩) hdo).mono ?_
  rintro e w' ⟨hv, σ', rfl, hM, S, pg', K', hp, hn, hd⟩
  exact ⟨hv, σ', pg', by rw [hd], hM, S, K', hp, hn⟩
theorem load_len (s : BS) (t c : Int) : (s.load t c).lg.length = s.lg.length + 1 := by simp [BS.load, BS.log]
theorem store_len (s : BS) (t c v : Int) : (s.store t c v).lg.length = s.lg.length + 1 := by simp [BS.store, BS.setlog]
theorem store_vs (s : BS) (t : Int) (c : Nat) (v : Int) : (s.store t (c : Int) v).vs = s.vs.set c v := rfl
theorem store_vlen (s : BS) (t : Int) (c : Nat) (v : Int) : (s.store t (c : Int) v).vs.length = s.vs.length := by rw [store_vs, List.length_set]
theorem m_box (M : Mem B w0 (σ.L B ++ (boxR bs :: R)) w) : ∀ b ∈ bs, Blk w b.g b.t b.cs := M.each 9 _ rfl
set_option maxHeartbeats 1000000 in
theorem stp_loc {x : RsV} (M : Mem B w0 (σ.L B ++ (boxR bs :: R)) w) (K : RnOk σ y n m ts none) (hp : PgAt σ bs n m ts (.loc x)) :
    Calls Tryz.prog 15 #[.pointer (some ⟨σ.g, 0, none⟩)] w (StepTo B w0 R σ bs y n m ts (.loc x)) := by
  obtain ⟨hb, hd, hph, rb, xb, hdv, rfl⟩ := hp
  have b1 : Blk w rb 45 #[.pointer (some ⟨σ.g, 0, none⟩)] := m_box M ⟨rb, _, _⟩ (.head _)
  have b2 : Blk w xb 41 x.arr := m_box M ⟨xb, _, _⟩ (.tail _ (.head _))
  refine stpb_of M K.O hb _ _ hdv (fun W => by kernel_rfl) fun R' W M' c => ?_
  refine (rloc_run σ.g rb xb σ.r x W (m_rd M') (c.blk b1 id) (c.blk b2 id)).mono ?_
  intro e w' h
  have M2 := m_fin M' h rfl
  obtain ⟨rfl, _, _⟩ := h
  exact ⟨0, _, rfl, M2, ⟨rfl, rfl, rfl, rfl, rfl, rfl, rfl, rfl, rfl, rfl, rfl, rfl, rfl, rfl, rfl, rfl⟩, .fin x, K.same ⟨rfl, rfl, rfl, rfl, rfl, rfl, rfl, rfl, rfl, rfl, rfl, rfl, rfl, rfl, rfl, rfl⟩ (K.O.rd (σ.r.fin x) [] rfl rfl) rfl rfl rfl, ⟨rfl, rfl, rfl⟩, ⟨rfl, rfl, rfl, rfl⟩, rfl⟩
set_option maxHeartbeats 1000000 in
theorem stp_clos (M : Mem B w0 (σ.L B ++ (boxR bs :: R)) w) (K : RnOk σ y n m ts none) (hl : σ.s.lg.length < 800000) (hp : PgAt σ bs n m ts .clos) :
    Calls Tryz.prog 15 #[.pointer (some ⟨σ.g, 0, none⟩)] w (StepTo B w0 R σ bs y n m ts .clos) := by
  obtain ⟨hb, hd, hph, hdv, hop⟩ := hp
  refine stp_of M K.O hb _ hdv (fun W => by kernel_rfl) fun R' W M' => ?_
  refine (closed_m M' K.O K.free).mono ?_
  rintro e w' ⟨rfl, lv', h⟩
  have hll : (σ.s.load σ.r.cl 0).lg.length < 900000 := by rw [load_len]; omega
  have O1 := K.O.bank (σ.s.load σ.r.cl 0) lv' rfl hll (K.O.ed.of rfl)
  rcases h with ⟨h0, M2⟩ | ⟨h0, h1, M2⟩ | ⟨h0, k, pg, h1, M2⟩
  · exact ⟨0, _, rfl, M2, ⟨rfl, rfl, rfl, rfl, rfl, rfl, rfl, rfl, rfl, rfl, rfl, rfl, rfl, rfl, rfl, rfl⟩, .fin { RsV.zero with er := 13 }, K.same ⟨rfl, rfl, rfl, rfl, rfl, rfl, rfl, rfl, rfl, rfl, rfl, rfl, rfl, rfl, rfl, rfl⟩ (O1.rd _ [] rfl rfl) rfl rfl rfl, ⟨rfl, rfl, rfl⟩, ⟨rfl, rfl, rfl, .inl ⟨h0, rfl⟩⟩, rfl⟩
  · exact ⟨0, _, rfl, M2, ⟨rfl, rfl, rfl, rfl, rfl, rfl, rfl, rfl, rfl, rfl, rfl, rfl, rfl, rfl, rfl, rfl⟩, .fin { RsV.zero with er := 15 }, K.same ⟨rfl, rfl, rfl, rfl, rfl, rfl, rfl, rfl, rfl, rfl, rfl, rfl, rfl, rfl, rfl, rfl⟩ (O1.rd _ [] rfl rfl) rfl rfl rfl, ⟨rfl, rfl, rfl⟩, ⟨rfl, rfl, rfl, .inr (.inl ⟨h0, h1, rfl⟩)⟩, rfl⟩
  · have hsk : σ.sl[k]? = some none := by
      rcases free1_spec (σ.sl.map sptr) 0 with h | ⟨i, h, hi⟩
      · omega
      · have : i = k := by omega
        subst this
        exact sptr_none hi
    have hkn : k < n := by rw [← K.O.nl]; exact (List.getElem?_eq_some_iff.1 hsk).1
    have hpl : m + k < σ.ps.length := by rw [K.O.pl]; have := K.O.mn; omega
    have S : Same σ { σ with s := σ.s.load σ.r.cl 0, lv := lv', ps := σ.ps.set (m + k) (some (pg, ⟨σ.r.cl, m + k, 0, 9⟩)), r := { σ.r with slot := (k : Int), pin := .pointer (some ⟨pg, 0, none⟩), ph := 9, dv := loadF σ.g } } := ⟨rfl, rfl, rfl, rfl, rfl, rfl, rfl, rfl, rfl, rfl, rfl, rfl, rfl, rfl, rfl, rfl⟩
    refine ⟨0, _, rfl, M2, S, .ep k, K.of S ((O1.pin (m + k) (some (pg, ⟨σ.r.cl, m + k, 0, 9⟩))).rd _ σ.tx rfl rfl) rfl rfl K.sn (fun j hj hne => ?_), ⟨hb, hd, rfl, rfl, hop, rfl, hkn, hsk, pg, _, rfl, List.getElem?_set_self hpl, rfl, rfl, rfl, fun h => by cases h⟩, ⟨rfl, rfl, rfl, .inr (.inr ⟨h0, k, h1, rfl⟩)⟩, hd⟩
    have hjk : j ≠ k := fun e => hne (by rw [e]; rfl)
    have e1 : (σ.ps.set (m + k) (some (pg, (⟨σ.r.cl, m + k, 0, 9⟩ : Pn))))[m + j]? = σ.ps[m + j]? := by rw [List.getElem?_set, if_neg (by omega)]
    show (σ.sl[j]? = some none ∧ (σ.ps.set (m + k) (some (pg, (⟨σ.r.cl, m + k, 0, 9⟩ : Pn))))[m + j]? = some none ∧ _) ∨ ∃ s g q, σ.sl[j]? = some (some s) ∧ (σ.ps.set (m + k) (some (pg, (⟨σ.r.cl, m + k, 0, 9⟩ : Pn))))[m + j]? = some (some (g, q)) ∧ _
    rw [e1]
    exact K.pn j hj (fun e => by cases e)
set_option maxHeartbeats 1000000 in
theorem stp_ep {k : Nat} (M : Mem B w0 (σ.L B ++ (boxR bs :: R)) w) (K : RnOk σ y n m ts (some k)) (hl : σ.s.lg.length < 800000) (hp : PgAt σ bs n m ts (.ep k)) :
    Calls Tryz.prog 15 #[.pointer (some ⟨σ.g, 0, none⟩)] w (StepTo B w0 R σ bs y n m ts (.ep k)) := by
  obtain ⟨hb, hd, hph, hdv, hop, hsl, hkn, hsk, g, q, hpin, hpk, hqt, hqs, hqp, _⟩ := hp
  refine stp_of M K.O hb _ hdv (fun W => by kernel_rfl) fun R' W M' => ?_
  refine (load9_m M' K.O hpin hpk hqt hqp).mono ?_
  rintro e w' ⟨rfl, lv', M2⟩
  have hll : (σ.s.load σ.r.cl σ.f.ep).lg.length < 900000 := by rw [load_len]; omega
  have O1 := K.O.bank (σ.s.load σ.r.cl σ.f.ep) lv' rfl hll (K.O.ed.of rfl)
  have hpl : m + k < σ.ps.length := (List.getElem?_eq_some_iff.1 hpk).1
  have S : Same σ { σ with s := σ.s.load σ.r.cl σ.f.ep, lv := lv', ps := σ.ps.set (m + k) (some (g, { q with seen := lk σ.s.vs σ.f.ep, ph := 10 })), r := { σ.r with ph := 10, dv := loadF σ.g } } := ⟨rfl, rfl, rfl, rfl, rfl, rfl, rfl, rfl, rfl, rfl, rfl, rfl, rfl, rfl, rfl, rfl⟩
  refine ⟨0, _, rfl, M2, S, .ann k (lk σ.s.vs σ.f.ep), K.of S ((O1.pin (m + k) (some (g, { q with seen := lk σ.s.vs σ.f.ep, ph := 10 }))).rd _ σ.tx rfl rfl) rfl rfl K.sn (fun j hj hne => ?_), ⟨hb, hd, rfl, rfl, ⟨hop, hsl, hkn, hsk, g, _, hpin, List.getElem?_set_self hpl, hqt, hqs, rfl, fun _ => rfl⟩, K.ep⟩, ⟨rfl, rfl, rfl, rfl⟩, hd⟩
  have hjk : j ≠ k := fun e => hne (by rw [e]; rfl)
  have e1 : (σ.ps.set (m + k) (some (g, ({ q with seen := lk σ.s.vs σ.f.ep, ph := 10 } : Pn))))[m + j]? = σ.ps[m + j]? := by rw [List.getElem?_set, if_neg (by omega)]
  show (σ.sl[j]? = some none ∧ (σ.ps.set (m + k) (some (g, ({ q with seen := lk σ.s.vs σ.f.ep, ph := 10 } : Pn))))[m + j]? = some none ∧ _) ∨ ∃ s g' q', σ.sl[j]? = some (some s) ∧ (σ.ps.set (m + k) (some (g, ({ q with seen := lk σ.s.vs σ.f.ep, ph := 10 } : Pn))))[m + j]? = some (some (g', q')) ∧ _
  rw [e1]
  exact K.pn j hj (fun e => hjk (by injection e with e; exact e.symm))
set_option maxHeartbeats 1000000 in
theorem stp_ann {k : Nat} {v : Int} (M : Mem B w0 (σ.L B ++ (boxR bs :: R)) w) (K : RnOk σ y n m ts (some k)) (hl : σ.s.lg.length < 800000) (hp : PgAt σ bs n m ts (.ann k v)) :
    Calls Tryz.prog 15 #[.pointer (some ⟨σ.g, 0, none⟩)] w (StepTo B w0 R σ bs y n m ts (.ann k v)) := by
  obtain ⟨hb, hd, hph, hdv, ⟨hop, hsl, hkn, hsk, g, q, hpin, hpk, hqt, hqs, hqp, hqe⟩, hv0, hv1⟩ := hp
  obtain ⟨qt, qs, qe, qp⟩ := q
  simp only at hqt hqs hqp
  have hqv : v = qe := (hqe rfl).symm
  clear hqe
  subst hqt
  subst hqs
  subst hqp
  subst hqv
  refine stp_of M K.O hb _ hdv (fun W => by kernel_rfl) fun R' W M' => ?_
  have hmk : m + k < σ.f.n := by have := K.O.mn; omega
  refine (load10_m M' K.O hpin hpk rfl rfl hmk).mono ?_
  rintro e w' ⟨rfl, lv', M2⟩
  have hw : w64 (v + 1) = v + 1 := by unfold w64; omega
  simp only [hw] at M2
  have hll : (σ.s.store σ.r.cl (σ.f.slot (m + k) : Nat) (v + 1)).lg.length < 900000 := by rw [store_len]; omega
  have O1 := K.O.bank (σ.s.store σ.r.cl (σ.f.slot (m + k) : Nat) (v + 1)) lv' (store_vlen _ _ _ _) hll (K.O.ed.of (store_vlen _ _ _ _))
  have hpl : m + k < σ.ps.length := (List.getElem?_eq_some_iff.1 hpk).1
  have hfs := K.O.fs (m + k) hmk
  have S : Same σ { σ with s := σ.s.store σ.r.cl (σ.f.slot (m + k) : Nat) (v + 1), lv := lv', ps := σ.ps.set (m + k) (some (g, ⟨σ.r.cl, m + k, v, 0⟩)), r := { σ.r with ph := 11, dv := rootF σ.g } } := ⟨rfl, rfl, rfl, rfl, rfl, rfl, rfl, rfl, rfl, rfl, rfl, rfl, rfl, rfl, rfl, rfl⟩
  refine ⟨0, _, rfl, M2, S, .root k, K.of S ((O1.pin (m + k) (some (g, ⟨σ.r.cl, m + k, v, 0⟩))).rd _ σ.tx rfl rfl) ?_ ?_ K.sn (fun j hj hne => ?_), ⟨hb, hd, rfl, rfl, ⟨hop, hsl, hkn, hsk, g, _, hpin, List.getElem?_set_self hpl, rfl, rfl, rfl, fun h => by cases h⟩, ?_⟩, ⟨rfl, rfl, rfl, rfl⟩, hd⟩
  · show lk (σ.s.store σ.r.cl (σ.f.slot (m + k) : Nat) (v + 1)).vs 1 = _
    rw [store_vs, lk_set_ne _ (by omega)]
  · show lk (σ.s.store σ.r.cl (σ.f.slot (m + k) : Nat) (v + 1)).vs σ.f.ep = _
    rw [store_vs, lk_set_ne _ (K.en _ hmk)]
  · have hjk : j ≠ k := fun e => hne (by rw [e]; rfl)
    have e1 : (σ.ps.set (m + k) (some (g, (⟨σ.r.cl, m + k, v, 0⟩ : Pn))))[m + j]? = σ.ps[m + j]? := by rw [List.getElem?_set, if_neg (by omega)]
    have e2 : lk (σ.s.store σ.r.cl (σ.f.slot (m + k) : Nat) (v + 1)).vs (σ.f.slot (m + j)) = lk σ.s.vs (σ.f.slot (m + j)) := by
      rw [store_vs, lk_set_ne _ (slot_ne K.O.ed hmk (by have := K.O.mn; omega) (by omega))]
    show (σ.sl[j]? = some none ∧ (σ.ps.set (m + k) (some (g, (⟨σ.r.cl, m + k, v, 0⟩ : Pn))))[m + j]? = some none ∧ lk (σ.s.store σ.r.cl (σ.f.slot (m + k) : Nat) (v + 1)).vs (σ.f.slot (m + j)) = 0) ∨ ∃ s g' q', σ.sl[j]? = some (some s) ∧ (σ.ps.set (m + k) (some (g, (⟨σ.r.cl, m + k, v, 0⟩ : Pn))))[m + j]? = some (some (g', q')) ∧ q'.ph = 0 ∧ lk (σ.s.store σ.r.cl (σ.f.slot (m + k) : Nat) (v + 1)).vs (σ.f.slot (m + j)) ≠ 0
    rw [e1, e2]
    exact K.pn j hj (fun e => hjk (by injection e with e; exact e.symm))
  · show lk (σ.s.store σ.r.cl (σ.f.slot (m + k) : Nat) (v + 1)).vs (σ.f.slot (m + k)) ≠ 0
    rw [store_vs, lk_set_eq _ (slot_ltR K.O.ed hmk)]
    omega
set_option maxHeartbeats 1000000 in
theorem stp_root {k : Nat} (M : Mem B w0 (σ.L B ++ (boxR bs :: R)) w) (K : RnOk σ y n m ts (some k)) (hl : σ.s.lg.length < 800000) (hp : PgAt σ bs n m ts (.root k)) :
    Calls Tryz.prog 15 #[.pointer (some ⟨σ.g, 0, none⟩)] w (StepTo B w0 R σ bs y n m ts (.root k)) := by
  obtain ⟨hb, hd, hph, hdv, ⟨hop, hsl, hkn, hsk, g, q, hpin, hpk, hqt, hqs, hqp, _⟩, hnz⟩ := hp
  refine stp_of M K.O hb _ hdv (fun W => by kernel_rfl) fun R' W M' => ?_
  obtain ⟨i, hi, hit⟩ := K.rt
  have hir : i < σ.rs.length := by rw [← K.nt]; exact hit
  obtain ⟨r, hr⟩ : ∃ r, σ.rs[i]? = some r := ⟨_, List.getElem?_eq_getElem hir⟩
  obtain ⟨tx, htx⟩ : ∃ tx, ts[i]? = some tx := ⟨_, List.getElem?_eq_getElem hit⟩
  obtain ⟨hro, hrn, hr1, hr2⟩ := K.rv i r tx hr htx
  refine (root_m M' K.O hsl hkn hsk hi hr (by rw [← K.nt]; have := K.t8; omega) (by omega) (by omega)).mono ?_
  rintro e w' ⟨rfl, lv', s, h1, h2, h3, h4, h5, M2⟩
  have hll : (σ.s.load σ.r.cl 1).lg.length < 900000 := by rw [load_len]; omega
  have O1 := K.O.bank (σ.s.load σ.r.cl 1) lv' rfl hll (K.O.ed.of rfl)
  have hkl : k < σ.sl.length := (List.getElem?_eq_some_iff.1 hsk).1
  have S : Same σ { σ with s := σ.s.load σ.r.cl 1, lv := lv', sl := σ.sl.set k (some s), r := σ.r.fin { RsV.zero with sl := (k : Int), rev := r.x.num }, tx := [] } := ⟨rfl, rfl, rfl, rfl, rfl, rfl, rfl, rfl, rfl, rfl, rfl, rfl, rfl, rfl, rfl, rfl⟩
  refine ⟨0, _, rfl, M2, S, .fin { RsV.zero with sl := (k : Int), rev := r.x.num }, K.of S ((O1.slot k (some s)).rd _ [] rfl rfl) rfl rfl (fun j t hj => ?_) (fun j hj hne => ?_), ⟨rfl, rfl, rfl⟩, ⟨rfl, rfl, i, r, s, hi, hr, h1, h2, h4, h5, rfl, rfl⟩, rfl⟩
  · rcases sset hj with ⟨_, e⟩ | ⟨_, hj⟩
    · injection e with e
      subst e
      exact ⟨i, r, hr, h1, h2, h4, by rw [h5]; exact Int.le_refl _, by rw [h5, h1, hro.1]; exact Int.natCast_nonneg _⟩
    · exact K.sn j t hj
  · by_cases hjk : j = k
    · subst hjk
      exact .inr ⟨s, g, q, List.getElem?_set_self hkl, hpk, hqp, hnz⟩
    · have e1 : (σ.sl.set k (some s))[j]? = σ.sl[j]? := by rw [List.getElem?_set, if_neg (fun e => hjk e.symm)]
      show ((σ.sl.set k (some s))[j]? = some none ∧ _ ∧ _) ∨ ∃ s' g' q', (σ.sl.set k (some s))[j]? = some (some s') ∧ _ ∧ _ ∧ _
      rw [e1]
      exact K.pn j hj (fun e => hjk (by injection e with e; exact e.symm))
set_option maxHeartbeats 1000000 in
theorem stp_rel {k : Nat} (M : Mem B w0 (σ.L B ++ (boxR bs :: R)) w) (K : RnOk σ y n m ts none) (hl : σ.s.lg.length < 800000) (hp : PgAt σ bs n m ts (.rel k)) :
    Calls Tryz.prog 15 #[.pointer (some ⟨σ.g, 0, none⟩)] w (StepTo B w0 R σ bs y n m ts (.rel k)) := by
  obtain ⟨hb, hd, hph, hdv, hop, hkn, s, hsk⟩ := hp
  refine stp_of M K.O hb _ hdv (fun W => by kernel_rfl) fun R' W M' => ?_
  have hmk : m + k < σ.f.n := by have := K.O.mn; omega
  rcases K.pn k hkn (fun e => by cases e) with ⟨h1, _, _⟩ | ⟨s', g, q, _, hpk, hqp, _⟩
  · rw [hsk] at h1
    injection h1 with h1
    cases h1
  refine (release_m M' K.O hop hkn hsk hpk hqp).mono ?_
  rintro e w' ⟨rfl, lv', M2⟩
  have hll : (σ.s.store σ.r.cl (σ.f.slot (m + k) : Nat) 0).lg.length < 900000 := by rw [store_len]; omega
  have O1 := K.O.bank (σ.s.store σ.r.cl (σ.f.slot (m + k) : Nat) 0) lv' (store_vlen _ _ _ _) hll (K.O.ed.of (store_vlen _ _ _ _))
  have hpl : m + k < σ.ps.length := (List.getElem?_eq_some_iff.1 hpk).1
  have hkl : k < σ.sl.length := (List.getElem?_eq_some_iff.1 hsk).1
  have hfs := K.O.fs (m + k) hmk
  have S : Same σ { σ with s := σ.s.store σ.r.cl (σ.f.slot (m + k) : Nat) 0, lv := lv', ps := σ.ps.set (m + k) none, sl := σ.sl.set k none, r := σ.r.fin RsV.zero, tx := [] } := ⟨rfl, rfl, rfl, rfl, rfl, rfl, rfl, rfl, rfl, rfl, rfl, rfl, rfl, rfl, rfl, rfl⟩
  refine ⟨0, _, rfl, M2, S, .fin RsV.zero, K.of S (((O1.pin (m + k) none).slot k none).rd _ [] rfl rfl) ?_ ?_ (fun j t hj => ?_) (fun j hj hne => ?_), ⟨rfl, rfl, rfl⟩, ⟨rfl, rfl, rfl, rfl⟩, rfl⟩
  · show lk (σ.s.store σ.r.cl (σ.f.slot (m + k) : Nat) 0).vs 1 = _
    rw [store_vs, lk_set_ne _ (by omega)]
  · show lk (σ.s.store σ.r.cl (σ.f.slot (m + k) : Nat) 0).vs σ.f.ep = _
    rw [store_vs, lk_set_ne _ (K.en _ hmk)]
  · rcases sset hj with ⟨_, e⟩ | ⟨_, hj⟩
    · cases e
    · exact K.sn j t hj
  · by_cases hjk : j = k
    · subst hjk
      refine .inl ⟨List.getElem?_set_self hkl, List.getElem?_set_self hpl, ?_⟩
      show lk (σ.s.store σ.r.cl (σ.f.slot (m + j) : Nat) 0).vs (σ.f.slot (m + j)) = 0
      rw [store_vs, lk_set_eq _ (slot_ltR K.O.ed hmk)]
    · have e1 : (σ.sl.set k none)[j]? = σ.sl[j]? := by rw [List.getElem?_set, if_neg (fun e => hjk e.symm)]
      have e2 : (σ.ps.set (m + k) none)[m + j]? = σ.ps[m + j]? := by rw [List.getElem?_set, if_neg (by omega)]
      have e3 : lk (σ.s.store σ.r.cl (σ.f.slot (m + k) : Nat) 0).vs (σ.f.slot (m + j)) = lk σ.s.vs (σ.f.slot (m + j)) := by
        rw [store_vs, lk_set_ne _ (slot_ne K.O.ed hmk (by have := K.O.mn; omega) (by omega))]
      show ((σ.sl.set k none)[j]? = some none ∧ (σ.ps.set (m + k) none)[m + j]? = some none ∧ lk (σ.s.store σ.r.cl (σ.f.slot (m + k) : Nat) 0).vs (σ.f.slot (m + j)) = 0) ∨ ∃ s' g' q', (σ.sl.set k none)[j]? = some (some s') ∧ (σ.ps.set (m + k) none)[m + j]? = some (some (g', q')) ∧ q'.ph = 0 ∧ lk (σ.s.store σ.r.cl (σ.f.slot (m + k) : Nat) 0).vs (σ.f.slot (m + j)) ≠ 0
      rw [e1, e2, e3]
      exact K.pn j hj (fun e => by cases e)
end
theorem Dn.app {f : Ms → Int} {tx : List UInt8} {ns : List An} {ix : Nat} {n r : Int} {base : Ms} (h : Dn f tx ns ix n r base) (ys : List An) : Dn f tx (ns ++ ys) ix n r base := by
  obtain ⟨u, pre, post, a, b⟩ := h.ex
  exact ⟨⟨u, pre, post, a.app, b⟩⟩
theorem app_get {α : Type} {l : List α} {i : Nat} {a : α} (h : l[i]? = some a) (us : List α) : (l ++ us)[i]? = some a := by
  rw [List.getElem?_append_left (List.getElem?_eq_some_iff.1 h).1]
  exact h
theorem app_last {α : Type} {l : List α} {i : Nat} {a b : α} (h : (l ++ [b])[i]? = some a) : l[i]? = some a ∨ (i = l.length ∧ a = b) := by
  rw [List.getElem?_append] at h
  split at h
  · exact .inl h
  · have hl := (List.getElem?_eq_some_iff.1 h).1
    simp at hl
    have hi : i - l.length = 0 := by omega
    rw [hi] at h
    simp at h
    exact .inr ⟨by omega, h.symm⟩
section
variable {B : Nat} {w0 w : World} {R : List Res} {σ σ' : RS} {bs : List Bx} {y : Ly} {n m : Nat} {ts ts' : List (List UInt8)} {hk : Option Nat} {pg : Pg}
theorem Shows.move {k : Nat} {tx : List UInt8} (h : Shows σ ts k tx) (hsl : σ'.sl = σ.sl) (us : List (List UInt8)) : Shows σ' (ts ++ us) k tx := by
  obtain ⟨s, i, h1, h2, h3⟩ := h
  exact ⟨s, i, by rw [hsl]; exact h1, h2, app_get h3 us⟩
theorem Acq.move {k : Nat} {ph v : Int} (h : Acq σ n m k ph v) (hr : σ'.r = σ.r) (hsl : σ'.sl = σ.sl) (hps : σ'.ps = σ.ps) : Acq σ' n m k ph v := by
  unfold Acq at *
  rw [hr, hsl, hps]
  exact h
theorem PgAt.move (h : PgAt σ bs n m ts pg) (O : σ.Ok y n m) (hg : σ'.g = σ.g) (hr : σ'.r = σ.r) (hsl : σ'.sl = σ.sl) (hps : σ'.ps = σ.ps) (htx : σ'.tx = σ.tx) {ys : List An} (hns : σ'.ns = σ.ns ++ ys) (hf : σ'.f = σ.f) (hvs : ∀ i, i < σ.f.n → lk σ'.s.vs (σ.f.slot i) = lk σ.s.vs (σ.f.slot i)) (us : List (List UInt8)) : PgAt σ' bs n m (ts ++ us) pg := by
  cases pg with
  | fin x => simp only [PgAt, hr] at *; exact h
  | loc x => simp only [PgAt, hr, hg] at *; exact h
  | clos => simp only [PgAt, hr, hg] at *; exact h
  | ep k =>
    obtain ⟨h1, h2, h3, h4, h5⟩ := h
    exact ⟨by rw [hr]; exact h1, by rw [hr]; exact h2, by rw [hr]; exact h3, by rw [hr, hg]; exact h4, h5.move hr hsl hps⟩
  | ann k v =>
    obtain ⟨h1, h2, h3, h4, h5, h6⟩ := h
    exact ⟨by rw [hr]; exact h1, by rw [hr]; exact h2, by rw [hr]; exact h3, by rw [hr, hg]; exact h4, h5.move hr hsl hps, h6⟩
  | root k =>
    obtain ⟨h1, h2, h3, h4, h5, h6⟩ := h
    exact ⟨by rw [hr]; exact h1, by rw [hr]; exact h2, by rw [hr]; exact h3, by rw [hr, hg]; exact h4, h5.move hr hsl hps, by rw [hf, hvs _ (by have := O.mn; have := h5.2.2.1; omega)]; exact h6⟩
  | rel k => simp only [PgAt, hr, hg, hsl] at *; exact h
  | seek k pos => simp only [PgAt, hr, hg, hsl] at *; exact h
  | take k a pos => simp only [PgAt, hr, hg, hsl, htx] at *; exact h
  | byte k a tx p0 N d ix rest base =>
    obtain ⟨h1, h2, h3, h4, h5, h6, h7, h8, h9, h10, h11, h12, h13, h14, h15, h16⟩ := h
    exact ⟨by rw [hr]; exact h1, by rw [hr]; exact h2, by rw [hr]; exact h3, by rw [hr, hg]; exact h4, by rw [hr]; exact h5, by rw [hr]; exact h6, h7.move hsl us, by rw [hr]; exact h8, by rw [hr]; exact h9, by rw [hr]; exact h10, by rw [hr]; exact h11, by rw [hr]; exact h12, h13, h14, by rw [htx]; exact h15, by rw [hns]; exact h16.app ys⟩
  | rune k tx q ix rest base =>
    obtain ⟨h1, h2, h3, h4, h5, h6, h7, h8, h9⟩ := h
    exact ⟨by rw [hr]; exact h1, by rw [hr]; exact h2, by rw [hr]; exact h3, by rw [hr, hg]; exact h4, h5.move hsl us, by rw [hr]; exact h6, by rw [hr]; exact h7, by rw [hr]; exact h8, by rw [hns]; exact h9.app ys⟩
  | line k tx q ix rest base =>
    obtain ⟨h1, h2, h3, h4, h5, h6, h7, h8, h9⟩ := h
    exact ⟨by rw [hr]; exact h1, by rw [hr]; exact h2, by rw [hr]; exact h3, by rw [hr, hg]; exact h4, h5.move hsl us, by rw [hr]; exact h6, by rw [hr]; exact h7, by rw [hr]; exact h8, by rw [hns]; exact h9.app ys⟩
def RS.pub (σ : RS) (ys : List An) (rv' : Value) (r1 : RvS) (lv' : Value) (t : Int) : RS := { σ with ns := σ.ns ++ ys, cs := σ.cs.setIfInBounds 23 rv', rv := rv', rs := σ.rs ++ [r1], s := σ.s.store t 1 (σ.rs.length : Int), lv := lv' }
theorem slot_ne1 (K : RnOk σ y n m ts hk) {i : Nat} (hi : i < σ.f.n) : 1 ≠ σ.f.slot i := by
  have := K.O.fs i hi
  omega
theorem RnOk.pub (K : RnOk σ y n m ts hk) (hl : σ.s.lg.length < 800000) {ys : List An} (P' : ArP (σ.ns ++ ys)) (rv' : Value) (r1 : RvS) (lv' : Value) (t : Int) {tx : List UInt8} (ht : ts.length < 200) (htl : tx.length ≤ 100000) (hr : RevOk (σ.ns ++ ys) r1.x tx) (hn : r1.x.num = 3 * (ts.length : Int)) (hm : r1.ms.length ≤ 4) (hd : r1.ds.length ≤ 4) : RnOk (σ.pub ys rv' r1 lv' t) y n m (ts ++ [tx]) hk := by
  have h23 : 23 < σ.cs.size := (Array.getElem?_eq_some_iff.1 K.O.h23).1
  have hvl : 1 < σ.s.vs.length := by have := K.O.vs; omega
  refine ⟨?_, P', by simp [RS.pub, K.nt], by simp; omega, fun u hu => ?_, fun i r u hi hu => ?_, ⟨ts.length, ?_, by simp⟩, fun k s hs => ?_, fun k hk hne => ?_, ?_, K.en⟩
  · exact ((K.O.publish rv' (σ.rs ++ [r1]) h23 (by simp [Ly.arr])).arena (σ.ns ++ ys)).bank (σ.s.store t 1 (σ.rs.length : Int)) lv' (store_vlen _ _ 1 _) (by show (σ.s.store t 1 (σ.rs.length : Int)).lg.length < 900000; rw [store_len]; omega) (K.O.ed.of (store_vlen _ _ 1 _))
  · simp at hu
    rcases hu with hu | rfl
    · exact K.tl u hu
    · exact htl
  · have hi : (σ.rs ++ [r1])[i]? = some r := hi
    rcases app_last hi with h | ⟨h1, h2⟩
    · have hil : i < ts.length := by rw [K.nt]; exact (List.getElem?_eq_some_iff.1 h).1
      rw [List.getElem?_append_left hil] at hu
      obtain ⟨a, b⟩ := K.rv i r u h hu
      exact ⟨a.app ys, b⟩
    · subst h2
      rw [h1, ← K.nt, List.getElem?_append_right (Nat.le_refl _), Nat.sub_self] at hu
      simp at hu
      subst hu
      exact ⟨hr, by rw [hn, h1, K.nt], hm, hd⟩
  · show lk (σ.s.store t 1 (σ.rs.length : Int)).vs 1 = _
    rw [show (σ.s.store t 1 (σ.rs.length : Int)).vs = σ.s.vs.set 1 (σ.rs.length : Int) from rfl, lk_set_eq _ hvl, K.nt]
  · obtain ⟨i, r, h1, h2⟩ := K.sn k s hs
    exact ⟨i, r, app_get h1 _, h2⟩
  · have e : lk (σ.s.store t 1 (σ.rs.length : Int)).vs (σ.f.slot (m + k)) = lk σ.s.vs (σ.f.slot (m + k)) := by
      rw [show (σ.s.store t 1 (σ.rs.length : Int)).vs = σ.s.vs.set 1 (σ.rs.length : Int) from rfl, lk_set_ne _ (slot_ne1 K (by have := K.O.mn; omega))]
    show (σ.sl[k]? = some none ∧ σ.ps[m + k]? = some none ∧ lk (σ.s.store t 1 (σ.rs.length : Int)).vs (σ.f.slot (m + k)) = 0) ∨ ∃ s g q, σ.sl[k]? = some (some s) ∧ σ.ps[m + k]? = some (some (g, q)) ∧ q.ph = 0 ∧ lk (σ.s.store t 1 (σ.rs.length : Int)).vs (σ.f.slot (m + k)) ≠ 0
    rw [e]
    exact K.pn k hk hne
  · show 0 ≤ lk (σ.s.store t 1 (σ.rs.length : Int)).vs σ.f.ep ∧ lk (σ.s.store t 1 (σ.rs.length : Int)).vs σ.f.ep < 1000000
    rw [show (σ.s.store t 1 (σ.rs.length : Int)).vs = σ.s.vs.set 1 (σ.rs.length : Int) from rfl, lk_set_ne _ (by have := K.O.f0; omega)]
    exact K.ep
theorem PgAt.pub (h : PgAt σ bs n m ts pg) (K : RnOk σ y n m ts hk) (ys : List An) (rv' : Value) (r1 : RvS) (lv' : Value) (t : Int) (tx : List UInt8) : PgAt (σ.pub ys rv' r1 lv' t) bs n m (ts ++ [tx]) pg :=
  h.move (σ' := σ.pub ys rv' r1 lv' t) (ys := ys) K.O rfl rfl rfl rfl rfl rfl rfl (fun i hi => by
    show lk (σ.s.vs.set 1 _) _ = _
    rw [lk_set_ne _ (slot_ne1 K hi)]) [tx]
end
end Go.Proofs.YtjcdknhejcbpiaaGreat
