/- Runs of an epoch: what the laws use. -/
import Derived.Test.YtokcodeeaneeaaaEgRb
namespace Go.Proofs.Ytokcodeeaneeaaa
open Go.RowKit
set_option linter.unusedVariables false
set_option linter.unusedSimpArgs false
set_option linter.unusedSectionVars false

/-- A run in memory. -/
def EgAt (rp : List (Option Nat)) (B p cb qb pb pr X lb n M : Nat) (x : Xr) (gp : List Gp) (w0 w : World) : Prop := ∃ lv ov v0 v1 v2 gs go, RunG rp B p cb qb pb pr X lb n M lv ov v0 v1 v2 x gp gs go w0 w
section
variable {rp : List (Option Nat)} {B p cb qb pb pr X lb n M k : Nat} {x : Xr} {gp : List Gp} {w0 w w' : World}
theorem EgAt.inv (h : EgAt rp B p cb qb pb pr X lb n M x gp w0 w) : EInv n M x := by obtain ⟨_, _, _, _, _, _, _, h⟩ := h; exact h.inv
theorem EgAt.n5 (h : EgAt rp B p cb qb pb pr X lb n M x gp w0 w) : n ≤ 5 := by obtain ⟨_, _, _, _, _, _, _, h⟩ := h; exact h.n5
theorem EgAt.gl (h : EgAt rp B p cb qb pb pr X lb n M x gp w0 w) : gp.length = n := by obtain ⟨_, _, _, _, _, _, _, h⟩ := h; exact h.gl
theorem EgAt.bel (h : EgAt rp B p cb qb pb pr X lb n M x gp w0 w) : Below B w0 w := by obtain ⟨_, _, _, _, _, _, _, h⟩ := h; exact h.mem.bel
theorem EgAt.keep (h : EgAt rp B p cb qb pb pr X lb n M x gp w0 w) (c : Ch (fun _ => False) w w') : EgAt rp B p cb qb pb pr X lb n M x gp w0 w' := by obtain ⟨a, b, c1, d, e, f, g, h⟩ := h; exact ⟨a, b, c1, d, e, f, g, h.keep c⟩
theorem EgAt.drewN (h : EgAt rp B p cb qb pb pr X lb n M x gp w0 w) (m : Nat) : EgAt rp B p cb qb pb pr X lb n M x gp w0 (w.drewN m) := h.keep ((Ch.refl _ w).drewN m)
theorem EgAt.le (h : EgAt rp B p cb qb pb pr X lb n M x gp w0 w) {M' : Nat} (hM : M ≤ M') (h2 : M' ≤ 200000) : EgAt rp B p cb qb pb pr X lb n M' x gp w0 w := by obtain ⟨a, b, c1, d, e, f, g, h⟩ := h; exact ⟨a, b, c1, d, e, f, g, h.le hM h2⟩
theorem EgAt.c0 (h : EgAt rp B p cb qb pb pr X lb n M x gp w0 w) : w.cell? ⟨X, 0, none⟩ = some (.pointer (some ⟨p, 0, none⟩)) := by obtain ⟨_, _, _, _, _, _, _, h⟩ := h; exact (h.mem.each 3 _ rfl).cell 0
theorem EgAt.c1 (h : EgAt rp B p cb qb pb pr X lb n M x gp w0 w) : w.cell? ⟨X, 1, none⟩ = some (.pointer (some ⟨qb, 0, none⟩)) := by obtain ⟨_, _, _, _, _, _, _, h⟩ := h; exact (h.mem.each 3 _ rfl).cell 1
theorem EgAt.c2 (h : EgAt rp B p cb qb pb pr X lb n M x gp w0 w) : w.cell? ⟨X, 2, none⟩ = some (.pointer (some ⟨lb, 0, none⟩)) := by obtain ⟨_, _, _, _, _, _, _, h⟩ := h; exact (h.mem.each 3 _ rfl).cell 2
theorem EgAt.c3 (h : EgAt rp B p cb qb pb pr X lb n M x gp w0 w) : w.cell? ⟨X, 3, none⟩ = some (.slice (some ⟨pr, 0, none⟩) n n) := by obtain ⟨_, _, _, _, _, _, _, h⟩ := h; exact (h.mem.each 3 _ rfl).cell 3
theorem EgAt.c6 (h : EgAt rp B p cb qb pb pr X lb n M x gp w0 w) : w.cell? ⟨X, 6, none⟩ = some (.bool x.fine) := by obtain ⟨_, _, _, _, _, _, _, h⟩ := h; exact (h.mem.each 3 _ rfl).cell 6
theorem EgAt.pins (h : EgAt rp B p cb qb pb pr X lb n M x gp w0 w) {o : Option Nat} (ho : rp[k]? = some o) : w.cell? ⟨pr, k, none⟩ = some (pinV o) ∧ w.frozen? ⟨pr, k, none⟩ = false := by obtain ⟨_, _, _, _, _, _, _, h⟩ := h; exact ⟨(Blk.cell (h.mem.each 2 _ rfl) k).trans (pinsA_at ho), Blk.free (h.mem.each 2 _ rfl) k⟩
theorem EgAt.apart (h : EgAt rp B p cb qb pb pr X lb n M x gp w0 w) : X ≠ pr := by obtain ⟨_, _, _, _, _, _, _, h⟩ := h; exact Blk.ne (h.mem.each 3 _ rfl) (h.mem.each 2 _ rfl) (by decide)
theorem EgAt.c4n (h : EgAt rp B p cb qb pb pr X lb n M x gp w0 w) (hx : x.sc = none) : w.cell? ⟨X, 4, none⟩ = some (.pointer none) := by obtain ⟨_, _, _, _, _, _, _, h⟩ := h; exact ((h.mem.each 3 _ rfl).cell 4).trans (congrArg some (h.rests hx).2)
theorem EgAt.c4s (h : EgAt rp B p cb qb pb pr X lb n M x gp w0 w) (hx : x.sc ≠ none) : ∃ g, w.cell? ⟨X, 4, none⟩ = some (.pointer (some ⟨g, 0, none⟩)) := by
  obtain ⟨_, _, _, _, _, _, _, h⟩ := h
  obtain ⟨g, q, _, _, _, e⟩ := h.live hx
  exact ⟨g, ((h.mem.each 3 _ rfl).cell 4).trans (congrArg some e)⟩
theorem EgAt.put (h : EgAt rp B p cb qb pb pr X lb n M x gp w0 w) (k : Nat) (o : Option Nat) : EgAt (rp.set k o) B p cb qb pb pr X lb n M x gp w0 (w.setCell ⟨pr, k, none⟩ (pinV o)) := by
  obtain ⟨a, b, c1, d, e, f, g, h⟩ := h
  refine ⟨a, b, c1, d, e, f, g, ?_, h.ps, h.sc, h.old, h.inv, h.om, h.n5, h.hM⟩
  have t := h.mem.put (i := 2) rfl k (pinV o)
  rw [pinsA_set] at t
  exact t
theorem EgAt.scan (h : EgAt rp B p cb qb pb pr X lb n M x gp w0 w) (hM : M + 1 ≤ 200000) : Calls Try.prog 41 #[.pointer (some ⟨X, 0, none⟩)] w fun e w' => e = .returned (.bool true) ∧ EgAt rp B p cb qb pb pr X lb n (M + 1) (xscan n x) gp w0 w' := by
  obtain ⟨a, b, c1, d, e, f, g, h⟩ := h
  refine (xscan_any rp B p cb qb pb pr X lb n M a b c1 d e x gp f g w0 w h hM).mono ?_
  rintro e' w' ⟨he, a', c1', d', e'', f', g', h'⟩
  exact ⟨he, a', b, c1', d', e'', f', g', h'⟩
theorem EgAt.now (h : EgAt rp B p cb qb pb pr X lb n M x gp w0 w) : Calls Try.prog 17 #[.pointer (some ⟨qb, 0, none⟩)] w fun e w' => e = .returned (.int .u64 x.now) ∧ ∃ m, w' = w.drewN m := by
  obtain ⟨_, _, _, _, _, _, _, h⟩ := h
  exact now_any B p cb qb _ x.s (edf n) _ _ w h.ep
theorem EgAt.pin (h : EgAt rp B p cb qb pb pr X lb n M x gp w0 w) (hk : k < n) (hp : gp[k]? = some none) : Calls Try.prog 19 #[.pointer (some ⟨qb, 0, none⟩), .int .i64 k, .int .i64 k] w fun e w' =>
    ∃ g, e = .returned (.tuple #[.pointer (some ⟨g, 0, none⟩), .int .i64 0]) ∧ EgAt rp B p cb qb pb pr X lb n M { x with ps := x.ps.set k (some (pn0 k)) } (gp.set k (some (g, pn0 k))) w0 w' := by
  have hn5 := h.n5
  obtain ⟨a, b, c1, d, e, f, g, h⟩ := h
  refine (pin_ok B p cb qb pb a x.s (edf n) (gsV f) (gbOf gp) w h.ep (h.mem.each 1 _ rfl) h.gbl (k : Int) k (ck_ok (by omega) hk) (gb_at hp)).mono ?_
  intro e' w' hb
  obtain ⟨g', he, hm⟩ := h.pbeg hk hb
  exact ⟨g', he, a, b, c1, d, e, f, g, h.pbeg2 hk hp hm⟩
theorem EgAt.step (h : EgAt rp B p cb qb pb pr X lb n M x gp w0 w) (hM : M + 1 ≤ 200000) {g : Nat} {q : Pn} (hp : gp[k]? = some (some (g, q))) (hq : q.ph ≠ 0) : Calls Try.prog 23 #[.pointer (some ⟨g, 0, none⟩)] w fun e w' =>
    e = .returned (.tuple #[.int .u8 q.ph, .bool ((pnstep x.s (edf n) q).2.ph == 0)]) ∧ EgAt rp B p cb qb pb pr X lb n (M + 1) (xpin n k x) (gp.set k (some (g, (pnstep x.s (edf n) q).2))) w0 w' := by
  have hn5 := h.n5
  have hl := h.gl
  have hkn : k < n := by have := (List.getElem?_eq_some_iff.1 hp).1; omega
  obtain ⟨a, b, c1, d, e, f, g', h⟩ := h
  have hpq := h.pinQ hp
  have hlg := h.inv.ll
  refine (pn_step B p cb qb g a x.s (edf n) (pinsV pb n) (gsV f) q w h.ep (h.pinB hp) (by rw [hpq.1]; omega) (by omega) h.mem.bz (by show q.slot < n; rw [hpq.2.1]; exact hkn) hpq.2.2).mono ?_
  rintro e' w' ⟨he, lv', hE, hg, c, hf⟩
  exact ⟨he, lv', b, c1, d, e, f, g', h.pstep2 hM hp hq (h.pstepM hp hE hg c hf)⟩
theorem EgAt.next (h : EgAt rp B p cb qb pb pr X lb n M x gp w0 w) {g : Nat} {q : Pn} (hp : gp[k]? = some (some (g, q))) : Calls Try.prog 21 #[.pointer (some ⟨g, 0, none⟩)] w fun e w' => e = .returned (.int .u8 q.ph) ∧ w = w' := by
  obtain ⟨_, _, _, _, _, _, _, h⟩ := h
  exact pn_next qb g w q (h.pinB hp)
theorem EgAt.unpin (h : EgAt rp B p cb qb pb pr X lb n M x gp w0 w) (hM : M + 1 ≤ 200000) {g : Nat} {q : Pn} (hp : gp[k]? = some (some (g, q))) (hq : q.ph = 0) : Calls Try.prog 25 #[.pointer (some ⟨qb, 0, none⟩), .int .i64 k, .int .i64 k] w fun e w' =>
    e = .returned (.int .i64 0) ∧ EgAt rp B p cb qb pb pr X lb n (M + 1) (xunpin0 n k x) (gp.set k none) w0 w' := by
  have hn5 := h.n5
  have hl := h.gl
  have hkn : k < n := by have := (List.getElem?_eq_some_iff.1 hp).1; omega
  obtain ⟨a, b, c1, d, e, f, g', h⟩ := h
  have hlg := h.inv.ll
  refine (unpin_ok B p cb qb pb a x.s (edf n) (gsV f) (gbOf gp) w h.ep (h.mem.each 1 _ rfl) h.gbl (k : Int) (by omega) h.mem.bz k (ck_ok (by omega) hkn) g (gb_at hp) q (h.pinB hp) hq).mono ?_
  rintro e' w' ⟨he, lv', hE, hp3, c, hf⟩
  exact ⟨he, lv', b, c1, d, e, f, g', h.unpin2 hM hkn (h.unpinM hM hkn hE hp3 c hf)⟩
theorem EgAt.pinQ (h : EgAt rp B p cb qb pb pr X lb n M x gp w0 w) {g : Nat} {q : Pn} (hp : gp[k]? = some (some (g, q))) : q.t = k ∧ q.slot = k ∧ (q.ph = 0 ∨ q.ph = 9 ∨ q.ph = 10) := by obtain ⟨_, _, _, _, _, _, _, h⟩ := h; exact h.pinQ hp
theorem EgAt.pin_at (h : EgAt rp B p cb qb pb pr X lb n M x gp w0 w) {o : Gp} (hk : gp[k]? = some o) : x.pin k = o.map Prod.snd := by obtain ⟨_, _, _, _, _, _, _, h⟩ := h; exact h.pin_at hk

/-- A slot is being cleared in what was retired. -/
def EgClr (rp : List (Option Nat)) (B p cb qb pb pr X lb n M k m : Nat) (A : Option Addr) (c : Nat) (x : Xr) (gp : List Gp) (j : Nat) (w0 w : World) : Prop :=
  ∃ lv v0 v1 v2 gs go wX, RunG rp B p cb qb pb pr X lb n M lv (.slice A m c) v0 v1 v2 x gp gs go w0 wX ∧ go.length = m ∧ Mem B w0 (egL B p cb qb pb pr X lb n lv (.slice A m c) v0 v1 v2 (lbCells v0 v1 v2) x.s x.fine (gbOf gp) rp (gsV gs) (gsV (gsLive gs)) (gsR qb gs) (lim x.old 0 0) (lim x.old 0 1) (lim x.old 0 2) go.length (goV n go) (gp.map (gpR qb)) ((goJ k j go).map goR)) w
theorem EgAt.clr (h : EgAt rp B p cb qb pb pr X lb n M x gp w0 w) (k : Nat) : ∃ m A c, m ≤ M ∧ x.old.length = m ∧ EgClr rp B p cb qb pb pr X lb n M k m A c x gp 0 w0 w := by
  obtain ⟨lv, ov, v0, v1, v2, gs, go, h⟩ := h
  obtain ⟨A, c, hov, _⟩ := own_slice (show w.ownsRow B 86 3 ov go.length (goV n go) from h.mem.each 8 _ rfl)
  subst hov
  exact ⟨go.length, A, c, h.om, by rw [h.old, List.length_map], lv, v0, v1, v2, gs, go, w, h, rfl, by rw [goJ_zero]; exact h.mem⟩
section
variable {m c j : Nat} {A : Option Addr}
theorem EgClr.c5 (h : EgClr rp B p cb qb pb pr X lb n M k m A c x gp j w0 w) : w.cell? ⟨X, 5, none⟩ = some (.slice A m c) := by obtain ⟨_, _, _, _, _, _, _, _, _, h⟩ := h; exact (h.each 3 _ rfl).cell 5
theorem EgClr.at (h : EgClr rp B p cb qb pb pr X lb n M k m A c x gp j w0 w) (hk : k < n) (hj : j < m) : ∃ gr b v, A = some ⟨gr, 0, none⟩ ∧ m ≤ c ∧ w.cell? ⟨gr, j * 3 + 1, none⟩ = some (.slice (some ⟨b, 0, none⟩) n n) ∧ w.cell? ⟨b, k, none⟩ = some v ∧ w.frozen? ⟨b, k, none⟩ = false ∧ EgClr rp B p cb qb pb pr X lb n M k m A c x gp (j + 1) w0 (w.setCell ⟨b, k, none⟩ (.bool false)) := by
  obtain ⟨lv, v0, v1, v2, gs, go, wX, h, hm, M'⟩ := h
  subst hm
  obtain ⟨y, hy⟩ : ∃ y, go[j]? = some y := ⟨_, List.getElem?_eq_getElem hj⟩
  obtain ⟨gr, hgr, hmc, a1, _⟩ := M'.oldAt hy
  have hL9 : (gp.map (gpR qb)).length = n := by rw [List.length_map]; exact h.gl
  have hbl := M'.each (10 + n + j) _ (egL_atO (r := goR y) hL9 (by simp [goJ_at hy]))
  have hsl : k < y.2.sl.length := by
    have t := (h.inv.ol y.2 (by rw [h.old]; exact List.mem_map_of_mem (List.mem_of_getElem? hy))).1
    omega
  exact ⟨gr, y.1, _, hgr, hmc, a1, (Blk.cell hbl k).trans (boolA_at hsl), Blk.free hbl k, lv, v0, v1, v2, gs, go, wX, h, rfl, M'.resetJ hL9 hy⟩
theorem EgClr.fin (h : EgClr rp B p cb qb pb pr X lb n M k m A c x gp m w0 w) (hi : EInv n M (xclr k x)) : EgAt rp B p cb qb pb pr X lb n M (xclr k x) gp w0 w := by
  obtain ⟨lv, v0, v1, v2, gs, go, wX, h, hm, M'⟩ := h
  subst hm
  exact ⟨lv, _, v0, v1, v2, gs, _, h.reset hi M'⟩
end
theorem einv_clr (h : EInv n M x) (k : Nat) : EInv n M (xclr k x) :=
  ⟨h.vl, h.ll, h.nw, h.pl, h.pk, h.sc, fun r hr => by
    obtain ⟨r0, h0, rfl⟩ := List.mem_map.1 hr
    have := h.ol r0 h0
    exact ⟨by rw [List.length_set]; exact this.1, this.2⟩⟩
theorem ginv_clr (h : GInv n M x) (k : Nat) : GInv n M (xclr k x) :=
  ⟨einv_clr h.toEInv k, fun r hr j hj hs => by
    obtain ⟨r0, h0, rfl⟩ := List.mem_map.1 hr
    simp only [List.getElem?_set] at hs
    by_cases e : k = j
    · subst e
      rw [if_pos rfl] at hs
      split at hs <;> cases hs
    · rw [if_neg e] at hs
      exact h.gr r0 h0 j hj hs, h.fn⟩
theorem oldby_clr {e : Int} (h : OldBy e x) (k : Nat) : OldBy e (xclr k x) := fun r hr => by
  obtain ⟨r0, h0, rfl⟩ := List.mem_map.1 hr
  exact h r0 h0
end
end Go.Proofs.Ytokcodeeaneeaaa
