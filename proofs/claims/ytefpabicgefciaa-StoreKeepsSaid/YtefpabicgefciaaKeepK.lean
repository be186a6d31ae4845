/- Revision, out of the store's memory. -/
import Derived.Test.YtefpabicgefciaaKeepI
namespace Go.Proofs.Ytefpabicgefciaa
open Go.RowKit
set_option linter.unusedVariables false
set_option linter.unusedSimpArgs false
set_option linter.unusedSectionVars false

theorem Mem.mem_in {B : Nat} {w0 w : World} {L : List Res} (h : Mem B w0 L w) {r : Res} (hr : r ∈ L) : r.holds w := by
  obtain ⟨i, hi⟩ := List.getElem?_of_mem hr
  exact h.each i r hi
theorem rev_at {B sb cr k cw q : Nat} {Ar Aw : Option Addr} {z : List Value} {rs : List Rec} {p : Rec} {w0 W : World} (hz : z.length = 8) (h : Mem B w0 (keepL B sb (.slice Ar (rs.length + 1) cr) (.slice Aw k cw) z rs) W) (hp : rs[q]? = some p) (hl : rs.length ≤ 30) (h1 : p.ms.length ≤ 20) (h2 : p.ds.length ≤ 20) :
    Calls Try.prog 8 #[.pointer (some ⟨sb, 0, none⟩), .int .i64 ((q : Int) + 1)] W fun e w' => ∃ Am c1 Ad c2, e = .returned (.tuple #[.agg (rvA p.x (.slice Am p.ms.length c1) (.slice Ad p.ds.length c2)), .int .i64 0]) ∧ InMk w' Am p.ms.length p.ms ∧ InPc w' Ad p.ds.length p.ds ∧ Ch (fun _ => False) W w' := by
  obtain ⟨cs, hcs, h23⟩ := h.each 0 _ rfl
  have hin : p ∈ rs := List.mem_of_getElem? hp
  have hm := h.mem_in (r := mR B p.mv p.ms) (by simp only [keepL, List.mem_cons, List.mem_flatMap]; exact .inr (.inr (.inr ⟨p, hin, by simp [Rec.res]⟩)))
  have hd := h.mem_in (r := dR B p.dv p.ds) (by simp only [keepL, List.mem_cons, List.mem_flatMap]; exact .inr (.inr (.inr ⟨p, hin, by simp [Rec.res]⟩)))
  obtain ⟨Am, c1, hmv, _, zm, im⟩ := own_mk hm
  obtain ⟨Ad, c2, hdv, _, zd, id'⟩ := own_pc hd
  have hlt : q < rs.length := (List.getElem?_eq_some_iff.1 hp).1
  have t := revision_any B sb cs Ar cr (rs.length + 1) (q + 1) (pubCells z rs) p.x Am Ad p.ms.length c1 p.ds.length c2 p.ms p.ds W hcs h23 (h.each 1 _ rfl) (by omega) (by omega) (fun j v hv => by rw [← hmv, ← hdv] at hv; exact pub_get hz hp j v hv) im id' zm zd (by omega) (by omega)
  have e : ((q + 1 : Nat) : Int) = (q : Int) + 1 := by push_cast; rfl
  rw [e] at t
  refine t.mono ?_
  rintro e w' ⟨mv, dv, rfl, ho1, ho2, hc⟩
  obtain ⟨Bm, d1, rfl, _, _, i1⟩ := own_mk ho1
  obtain ⟨Bd, d2, rfl, _, _, i2⟩ := own_pc ho2
  exact ⟨Bm, d1, Bd, d2, rfl, i1, i2, hc⟩
end Go.Proofs.Ytefpabicgefciaa
