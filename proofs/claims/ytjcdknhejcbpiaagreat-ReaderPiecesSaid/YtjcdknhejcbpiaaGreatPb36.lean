/- Texts XRdW for XPcs, by trim.py. -/
import Derived.Test.YtjcdknhejcbpiaaGreatPb35
namespace Go.Proofs.YtjcdknhejcbpiaaGreat
open Go.RowKit
set_option linter.unusedVariables false
set_option linter.unusedSimpArgs false
set_option linter.unusedSectionVars false
set_option maxRecDepth 100000
def takenF (g : Nat) : Value := .func (.func 105) #[.pointer (some ⟨g, 0, none⟩)] #[]
/-- The reader when a read of num bytes from pos on is set. -/
def Rd.read (g : Nat) (r : Rd) (x : Rv) (pos num : Int) : Rd :=
  if num = 0 then { r with tx := .slice none 0 0, next := pos, need := num, ph := 1, dv := takenF g }
  else { r with tx := .slice none 0 0, next := pos, need := num, ph := 12, dv := visF g, at' := x.at', rest := pos, base := ⟨0, 0, 0⟩ }
set_option maxHeartbeats 2000000 in
theorem rread_any (g sg : Nat) (r : Rd) (x : Rv) (mv dv : Value) (ix cu pos num : Int) (w : World) (h : Blk w g 111 r.cells) (hsg : Blk w sg 144 #[.int .i64 x.num, .int .u64 x.at', .int .i64 x.h, .int .i64 x.b, .int .i64 x.r, .int .i64 x.l, mv, dv, .int .i64 ix, .int .i64 cu]) :
    Calls Tryz.prog 69 #[.pointer (some ⟨g, 0, none⟩), .pointer (some ⟨sg, 0, none⟩), .int .i64 pos, .int .i64 num] w (RdSet g (Rd.read g r x pos num) w (.tuple #[])) := by
  have H := hid h
  have HSG := hid hsg
  have c34 : w.cell? ⟨g, 34, none⟩ = some r.tx := h.cell 34
  have c35 : w.cell? ⟨g, 35, none⟩ = some (.int .i64 r.need) := h.cell 35
  have c36 : w.cell? ⟨g, 36, none⟩ = some (.int .i64 r.next) := h.cell 36
  have f34 := h.free 34
  have f35 := h.free 35
  have f36 := h.free 36
  have nsg := hid (hsg.ne h (by decide))
  clear h hsg
  unfold Rd.read
  by_cases h0 : num = 0
  · subst h0
    simp only [if_true]
    go_enter Tryz.func69, Tryz.ntmps69
    go_wp2_with fail
    refine calls_world fun W9 hW9 => ?_
    have B9 := hid (show Blk W9 g 111 (Rd.cells { r with tx := .slice none 0 0, next := pos, need := 0 }) from by
      rw [hW9]
      exact Blk.as (((H.out.put 34 _).put 36 _).put 35 _) (by kernel_rfl))
    have C9 := hid (show Ch (fun b => b = g) w W9 from by
      rw [hW9]
      exact (((Ch.refl (fun b => b = g) w).set (fun _ => rfl) _).set (fun _ => rfl) _).set (fun _ => rfl) _)
    clear hW9
    refine (rthen_any g _ 1 105 _ _ W9 B9.out).mono ?_
    rintro e w10 ⟨rfl, hb, hc⟩
    go_wp2_with fail
    (try simp only [Exit.inBlock, Exit.then]); refine bodyPost_ret (results_none rfl _ _ _) rfl ?_
    exact ⟨rfl, hb, C9.out.trans hc (fun _ _ h => h)⟩
  · rw [if_neg h0]
    have d0 : (num == 0) = false := by rw [beq_eq_false_iff_ne]; exact h0
    clear h0
    go_enter Tryz.func69, Tryz.ntmps69
    go_wp2_with fail
    refine calls_world fun W9 hW9 => ?_
    have B9 := hid (show Blk W9 g 111 (Rd.cells { r with tx := .slice none 0 0, next := pos, need := num }) from by
      rw [hW9]
      exact Blk.as (((H.out.put 34 _).put 36 _).put 35 _) (by kernel_rfl))
    have C9 := hid (show Ch (fun b => b = g) w W9 from by
      rw [hW9]
      exact (((Ch.refl (fun b => b = g) w).set (fun _ => rfl) _).set (fun _ => rfl) _).set (fun _ => rfl) _)
    clear hW9
    have T := rdescend_any g sg _ _ x.at' pos 106 W9 B9.out (C9.out.blk HSG.out nsg.out) rfl
    refine T.mono ?_
    rintro e w10 ⟨rfl, hb, hc⟩
    go_wp2_with fail
    go_end0
    exact ⟨rfl, hb, C9.out.trans hc (fun _ _ h => h)⟩
end Go.Proofs.YtjcdknhejcbpiaaGreat
