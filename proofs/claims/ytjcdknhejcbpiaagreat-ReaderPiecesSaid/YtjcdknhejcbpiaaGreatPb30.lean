/- Texts XRdN, XRdO for XPcs, by trim.py. -/
import Derived.Test.YtjcdknhejcbpiaaGreatPb28
import Derived.Test.YtjcdknhejcbpiaaGreatPb29
import Derived.Test.YtjcdknhejcbpiaaGreatPb18
namespace Go.Proofs.YtjcdknhejcbpiaaGreat
open Go.RowKit
set_option linter.unusedVariables false
set_option linter.unusedSimpArgs false
set_option linter.unusedSectionVars false
set_option maxRecDepth 100000
section
variable {B : Nat} {w0 w : World} {R : List Res} {σ : RS} {y : Ly} {n m : Nat}
end
end Go.Proofs.YtjcdknhejcbpiaaGreat
namespace Go.Proofs.YtjcdknhejcbpiaaGreat
open Go.RowKit
set_option linter.unusedVariables false
set_option linter.unusedSimpArgs false
set_option linter.unusedSectionVars false
set_option maxRecDepth 100000
section
variable {B : Nat} {w0 w : World} {R : List Res} {σ : RS} {y : Ly} {n m : Nat}
set_option maxHeartbeats 2000000 in
theorem visit_m (M : Mem B w0 (σ.L B ++ R) w) (O : σ.Ok y n m) {i : Nat} {z : An} (hi : σ.r.at' = hdl i) (hz : σ.ns[i]? = some z) (hk : z.x.ks.length ≤ 1000) :
    Calls Tryz.prog 107 #[.pointer (some ⟨σ.g, 0, none⟩)] w fun e w' => ∃ a c, z.x.ks.length ≤ c ∧ e = .returned (.tuple #[z.x.v a z.x.ks.length c, .int .u64 (hdl i), .bool true]) ∧ InP Kd.cells 4 w' (fun b => w.heap.size ≤ b) a z.x.ks.length z.x.ks ∧ Ch (fun _ => False) w w' := by
  have HM := hid M
  have HO := hid O
  have HG := hid (fun W (hW : ArM σ.A W σ.ns σ.st) => get_any σ.A σ.ns σ.st i z W hW hz hk)
  have lg := (m_rd M).lt
  have a29 : w.cell? ⟨σ.g, 29, none⟩ = some (.int .u64 (hdl i)) := ((m_rd M).cell 29).trans (by rw [← hi]; rfl)
  have a0 : w.cell? ⟨σ.g, 0, none⟩ = some (.pointer (some ⟨σ.r.sb, 0, none⟩)) := (m_rd M).cell 0
  obtain ⟨⟨hh, s, ks⟩, za, zc⟩ := z
  simp only [Nd.v] at HG ⊢
  obtain ⟨kn, hkn⟩ : ∃ x, x = ks.length := ⟨_, rfl⟩
  rw [← hkn] at HG ⊢
  clear M O hi hz hk hkn
  go_enter Tryz.func107, Tryz.ntmps107
  go_wp2_with fail
  refine calls_world fun W1 hW1 => ?_
  have C1 := hid (show Ch (fun _ => False) w W1 from by rw [hW1]; exact (Ch.refl _ w).alloc _)
  have Z1 := hid (show Blk W1 w.heap.size 229 #[.int .i64 0, .string ⟨#[]⟩, .slice none 0 0] from by rw [hW1]; exact Blk.new w _ _)
  clear hW1 a29 a0
  have M1 := hid (HM.out.keep C1.out)
  refine (sarena_any W1 (m_st M1.out) HO.out.stf).mono ?_
  rintro e w' ⟨rfl, rfl⟩
  go_wp2_with fail
  refine (HG.out W1 (m_ar M1.out)).mono ?_
  rintro e w2 ⟨a, c, hcl, rfl, hin, hc⟩
  have HCL := hid hcl
  clear hcl
  have HIN := hid hin
  have C2 := hid (C1.out.trans hc (fun _ _ h => h))
  have Z2 := hid (hc.blk Z1.out id)
  have L1 := hid C1.out.size
  clear hin hc
  have r0 : w2.cell? ⟨w.heap.size, 0, none⟩ = some (.int .i64 0) := Z2.out.cell 0
  have r1 : w2.cell? ⟨w.heap.size, 1, none⟩ = some (.string ⟨#[]⟩) := Z2.out.cell 1
  have r2 : w2.cell? ⟨w.heap.size, 2, none⟩ = some (.slice none 0 0) := Z2.out.cell 2
  have s0 := Z2.out.free 0
  have s1 := Z2.out.free 1
  have s2 := Z2.out.free 2
  go_wp2_with fail
  refine at_world fun WZ hWZ => ?_
  have CZ := hid (show Ch (fun k => k = w.heap.size) w2 WZ from by
    rw [hWZ]
    exact (((((((Ch.refl (fun k => k = w.heap.size) w2).set (fun _ => rfl) _).set (fun _ => rfl) _).set (fun _ => rfl) _).set (fun _ => rfl) _).set (fun _ => rfl) _).set (fun _ => rfl) _))
  have BZ := hid (show Blk WZ w.heap.size 229 #[.int .i64 hh, .string s, .slice a kn c] from by
    rw [hWZ]
    exact ((((((Z2.out.put 0 _).put 1 _).put 2 _).put 0 _).put 1 _).put 2 _))
  have t0 : WZ.cell? ⟨w.heap.size, 0, none⟩ = some (.int .i64 hh) := BZ.out.cell 0
  have t1 : WZ.cell? ⟨w.heap.size, 1, none⟩ = some (.string s) := BZ.out.cell 1
  have t2 : WZ.cell? ⟨w.heap.size, 2, none⟩ = some (.slice a kn c) := BZ.out.cell 2
  clear hWZ r0 r1 r2 s0 s1 s2
  have hin2 := HIN.out.keep (S' := fun k => w.heap.size ≤ k) CZ.out (fun k _ h e => by have h' : W1.heap.size ≤ k := h; have m1 := Z1.out.lt; omega) (fun k _ h => Nat.le_trans L1.out h)
  exact bodyPost_ret (v := .tuple #[.agg #[.int .i64 hh, .string s, .slice a kn c], .int .u64 (hdl i), .bool true]) (by simp [results, Tryz.results107, go_sem, t0, t1, t2]) rfl ⟨a, c, HCL.out, rfl, hin2, C2.out.trans CZ.out (fun j hj e => by omega)⟩
end
end Go.Proofs.YtjcdknhejcbpiaaGreat
