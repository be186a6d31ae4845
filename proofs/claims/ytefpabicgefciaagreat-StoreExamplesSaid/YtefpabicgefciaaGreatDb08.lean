/- Texts XCompB for XChE, by trim.py. -/
import Derived.Test.YtefpabicgefciaaGreatDb07
namespace Go.Proofs.YtefpabicgefciaaGreat
open Go.RowKit
set_option linter.unusedVariables false
set_option linter.unusedSimpArgs false
set_option linter.unusedSectionVars false
def F1v : Value := .func (Fn.func 141) #[] #[]
def F2v : Value := .func (Fn.func 168) #[] #[]
/-- A reader in memory, what is left of its list. -/
structure RdM (B : Nat) (w : World) (xb g : Nat) (l : List Pc) (A : Option Addr) (c off : Nat) (cs : Array Value) : Prop where
  hb : Blk w xb 312 #[.slice A l.length c, F1v, F2v]
  hg : Blk w g 128 cs
  hc : l.length ≤ c
  ha : l ≠ [] → A = some ⟨g, off, none⟩
  hl : ∀ (j : Nat) (u : Value), (pcCells l)[j]? = some u → cs[off + j]? = some u
  b1 : B ≤ xb
  b2 : B ≤ g
def rdR (B xb g : Nat) (l : List Pc) : Res where
  holds w := ∃ A c off cs, RdM B w xb g l A c off cs
  foot k := k = xb ∨ k = g
  stable h ch hn := by
    obtain ⟨A, c, off, cs, h⟩ := h
    exact ⟨A, c, off, cs, { h with hb := ch.blk h.hb (hn _ (.inl rfl)), hg := ch.blk h.hg (hn _ (.inr rfl)) }⟩
  lt h k hk := by
    obtain ⟨A, c, off, cs, h⟩ := h
    rcases hk with rfl | rfl
    · exact h.hb.lt
    · exact h.hg.lt
section
variable {B xb g : Nat} {l : List Pc} {L2 : List Res} {w0 w : World}
set_option maxRecDepth 100000 in
theorem done_any (h : (rdR B xb g l).holds w) (hl : l.length < 5000000) : Calls Tryz.prog 138 #[.pointer (some ⟨xb, 0, none⟩)] w fun e w' => e = .returned (.bool (decide (l = []))) ∧ w = w' := by
  obtain ⟨A, c, off, cs, h⟩ := h
  obtain ⟨m, hm⟩ : ∃ m, m = l.length := ⟨_, rfl⟩
  have c0 : w.cell? ⟨xb, 0, none⟩ = some (.slice A m c) := by rw [hm]; exact h.hb.cell 0
  have lt := h.hb.lt
  have HD := hid (show ((m : Int) == 0) = decide (l = []) from by
    rw [hm]
    cases l <;> simp
    omega)
  rw [← hm] at hl
  clear hm h
  go_enter Tryz.func138, Tryz.ntmps138
  go_wp2_with fail
  go_ret
  exact ⟨by rw [← HD.out]; simp, rfl⟩
set_option maxRecDepth 100000 in
theorem head_any {p : Pc} (h : (rdR B xb g (p :: l)).holds w) (hl : l.length < 5000000) : Calls Tryz.prog 139 #[.pointer (some ⟨xb, 0, none⟩)] w fun e w' => e = .returned p.agg ∧ Ch (fun _ => False) w w' := by
  obtain ⟨A, c, off, cs, h⟩ := h
  have hA := h.ha (by simp)
  subst hA
  obtain ⟨m, hm⟩ : ∃ m, m = l.length := ⟨_, rfl⟩
  have c0 : w.cell? ⟨xb, 0, none⟩ = some (.slice (some ⟨g, off, none⟩) (m + 1) c) := by rw [hm]; exact h.hb.cell 0
  have hat : ∀ j v, p.cells[j]? = some v → w.cell? ⟨g, off + j, none⟩ = some v := fun j v hv => (h.hg.cell (off + j)).trans (h.hl j v (by
    have := pcCells_get (p :: l) 0 p rfl j v hv
    simpa using this))
  have k0 : w.cell? ⟨g, off, none⟩ = some (.int .u8 p.k) := hat 0 _ rfl
  have k1 : w.cell? ⟨g, off + 1, none⟩ = some (.int .i64 p.n) := hat 1 _ rfl
  have k2 : w.cell? ⟨g, off + 2, none⟩ = some (.string p.s) := hat 2 _ rfl
  have lt := h.hb.lt
  have lg := h.hg.lt
  clear hm h hat
  go_enter Tryz.func139, Tryz.ntmps139
  go_wp2_with fail
  refine bodyPost_ret (v := p.agg) (by simp [results, Tryz.results139, go_sem, Pc.agg]) rfl ⟨rfl, (Ch.refl _ w).alloc _⟩
theorem slice_one (g off n c : Nat) (hc : n + 1 ≤ c) : ∃ A', (0 < n → A' = some ⟨g, off + 3, none⟩) ∧ ∀ W, (Instr.sliceAt 77 (.slice (some ⟨g, off, none⟩) (n + 1) c) (some (.int .i64 1)) none none).run Tryz.prog W = .ok (.slice A' n (c - 1)) W := by
  refine ⟨if c = 1 then some ⟨g, off, none⟩ else some ⟨g, off + 3, none⟩, fun h0 => by rw [if_neg (by omega)], fun W => ?_⟩
  have t := run_slice_low (P := Tryz.prog) 77 128 3 Tryz.underlying77 (by kernel_rfl) (some ⟨g, off, none⟩) (n + 1) c 1 (by omega) hc W
  simpa [Addr.add] using t
set_option maxRecDepth 100000 in
set_option maxHeartbeats 1000000 in
theorem whole_any {p : Pc} (h : Mem B w0 (rdR B xb g (p :: l) :: L2) w) (hl : l.length < 5000000) : Calls Tryz.prog 140 #[.pointer (some ⟨xb, 0, none⟩)] w fun e w' => e = .returned p.agg ∧ Mem B w0 (rdR B xb g l :: L2) w' := by
  have M0 := hid h
  obtain ⟨A, c, off, cs, h⟩ := h.each 0 _ rfl
  have hA := h.ha (by simp)
  subst hA
  obtain ⟨m, hm⟩ : ∃ m, m = l.length := ⟨_, rfl⟩
  have c0 : w.cell? ⟨xb, 0, none⟩ = some (.slice (some ⟨g, off, none⟩) (m + 1) c) := by rw [hm]; exact h.hb.cell 0
  have f0 := h.hb.free 0
  have hat : ∀ j v, p.cells[j]? = some v → w.cell? ⟨g, off + j, none⟩ = some v := fun j v hv => (h.hg.cell (off + j)).trans (h.hl j v (by
    have := pcCells_get (p :: l) 0 p rfl j v hv
    simpa using this))
  have k0 : w.cell? ⟨g, off, none⟩ = some (.int .u8 p.k) := hat 0 _ rfl
  have k1 : w.cell? ⟨g, off + 1, none⟩ = some (.int .i64 p.n) := hat 1 _ rfl
  have k2 : w.cell? ⟨g, off + 2, none⟩ = some (.string p.s) := hat 2 _ rfl
  have lt := h.hb.lt
  have lg := h.hg.lt
  have ng : xb ≠ g := Blk.ne h.hb h.hg (by decide)
  have ng2 : g ≠ xb := Ne.symm ng
  have hcc : m + 1 ≤ c := by have := h.hc; rw [List.length_cons] at this; omega
  obtain ⟨A', hA', hsl⟩ := slice_one g off m c hcc
  have H := hid h
  have HM := hid hm
  have HA := hid hA'
  clear h hat hm hA'
  go_enter Tryz.func140, Tryz.ntmps140
  go_wp2_with fail
  refine bodyPost_ret (v := p.agg) (by simp [results, Tryz.results140, go_sem, Pc.agg]) rfl ⟨rfl, ?_⟩
  refine M0.out.upd (rdR B xb g l) (i := 0) rfl ((((Ch.refl (fun k => k = xb) w).set (fun _ => rfl) _).alloc _).alloc _) (fun k _ e => .inl e) ⟨A', c - 1, off + 3, cs, ?_, ((H.out.hg.far ng2 _).alloc _).alloc _, by have := HM.out; omega, fun hne => HA.out (by rw [HM.out]; exact List.length_pos_iff.2 hne), fun j u hu => ?_, H.out.b1, H.out.b2⟩ (fun k e => .inl e)
  · have t := ((H.out.hb.put 0 (.slice A' m (c - 1))).alloc (.cells #[.int .u8 p.k, .int .i64 p.n, .string p.s] 128)).alloc (.cells #[.int .u8 p.k, .int .i64 p.n, .string p.s] 128)
    rw [← HM.out]
    exact t
  · rw [show off + 3 + j = off + (3 + j) by omega]
    refine H.out.hl (3 + j) u ?_
    rw [show pcCells (p :: l) = p.cells ++ pcCells l from rfl, List.getElem?_append_right (by simp [Pc.cells])]
    simpa [Pc.cells] using hu
set_option maxRecDepth 100000 in
set_option maxHeartbeats 4000000 in
theorem rtake_any {p : Pc} {n : Nat} (h : Mem B w0 (rdR B xb g (p :: l) :: L2) w) (hl : l.length < 4000000) (hp : Dl.Ok p) (p1 : p.n ≤ 2000000) (p2 : p.s.size ≤ 2000000) (hn : 1 ≤ n) (hn2 : (n : Int) ≤ Dl.long p) :
    Calls Tryz.prog 142 #[.pointer (some ⟨xb, 0, none⟩), .int .i64 (n : Int)] w fun e w' => e = .returned (Dl.part p n).agg ∧ Mem B w0 (rdR B xb g (Dl.left p l n) :: L2) w' := by
  have p0 := hp.inn0
  unfold Dl.inn at p0
  have p3 : p.k = 2 → n ≤ p.s.size := by
    intro hk
    unfold Dl.long at hn2
    rcases hp with ⟨h, _⟩ | ⟨_, h, _⟩ <;> omega
  have p4 : n ≤ 2000000 := by
    unfold Dl.long at hn2
    rcases hp with ⟨_, _, h⟩ | ⟨_, h, _⟩ <;> omega
  have M0 := hid h
  clear h hp
  go_enter Tryz.func142, Tryz.ntmps142
  go_wp2_with fail
  refine calls_world fun W1 hW1 => ?_
  obtain ⟨r4, hr4⟩ : ∃ b, b = w.heap.size := ⟨_, rfl⟩
  have M1 := hid (show Mem B w0 (blkR r4 128 #[.int .u8 0, .int .i64 0, .string ⟨#[]⟩] :: rdR B xb g (p :: l) :: L2) W1 from by rw [hW1, hr4]; exact M0.out.cons (blkR w.heap.size 128 #[.int .u8 0, .int .i64 0, .string ⟨#[]⟩]) ((Ch.refl _ _).alloc _) (Blk.new w _ _) (fun k e => Nat.le_of_eq e.symm))
  rw [← hr4]
  clear hW1 hr4
  refine (head_any (M1.out.each 1 _ rfl) (by omega)).mono ?_
  rintro e w2 ⟨rfl, hc⟩
  have M2 := hid (M1.out.keep hc)
  clear hc
  simp only [Pc.agg]
  go_wp2_with fail
  refine at_world fun W3 hW3 => ?_
  obtain ⟨pb, hpb⟩ : ∃ b, b = w2.heap.size := ⟨_, rfl⟩
  have M3 := hid (show Mem B w0 (blkR pb 128 #[.int .u8 p.k, .int .i64 p.n, .string p.s] :: blkR r4 128 #[.int .u8 0, .int .i64 0, .string ⟨#[]⟩] :: rdR B xb g (p :: l) :: L2) W3 from by rw [hW3, hpb]; exact M2.out.cons (blkR w2.heap.size 128 #[.int .u8 p.k, .int .i64 p.n, .string p.s]) ((Ch.refl _ _).alloc _) (Blk.new w2 _ _) (fun k e => Nat.le_of_eq e.symm))
  rw [← hpb]
  clear hW3 hpb
  have x0 := (show (rdR B xb g (p :: l)).holds W3 from M3.out.each 2 _ rfl)
  obtain ⟨A0, c0, o0, cs0, hx0⟩ := x0
  have xs1 : W3.cell? ⟨xb, 1, none⟩ = some F1v := hx0.hb.cell 1
  have xs2 : W3.cell? ⟨xb, 2, none⟩ = some F2v := hx0.hb.cell 2
  have lxb := hx0.hb.lt
  clear hx0
  unfold F1v at xs1
  unfold F2v at xs2
  have k0 : W3.cell? ⟨pb, 0, none⟩ = some (.int .u8 p.k) := Blk.cell (M3.out.each 0 _ rfl) 0
  have k1 : W3.cell? ⟨pb, 1, none⟩ = some (.int .i64 p.n) := Blk.cell (M3.out.each 0 _ rfl) 1
  have k2 : W3.cell? ⟨pb, 2, none⟩ = some (.string p.s) := Blk.cell (M3.out.each 0 _ rfl) 2
  have lpb := Blk.lt (M3.out.each 0 _ rfl)
  go_wp2_with fail
  refine Mix.wp_region_mix (fun _ => True) (fun i => ([1, 0, 0, 0, 0, 0, 2, 0] : List Nat).getD i 0) [0, 1, 2, 3, 4, 5, 6, 7] (by kernel_rfl) (by kernel_rfl) ?_
  repeat (first | (refine Mix.mix_q (by simp only [List.getElem?_toArray, List.getElem?_cons_zero, List.getElem?_cons_succ]; exact rfl) rfl ?_; go_big_quiet_step (fail); refine wpQuiet_nil ?_) | (refine Mix.mix_p (by simp only [List.getElem?_toArray, List.getElem?_cons_zero, List.getElem?_cons_succ]; exact rfl) rfl rfl ?_; go_big_quiet_step (fail); refine wpQuiet_nil ?_))
  refine Mix.mix_e (by simp only [List.getElem?_toArray, List.getElem?_cons_zero, List.getElem?_cons_succ]; exact rfl) rfl fun X1 hX1 => ?_
  obtain ⟨x1, rfl⟩ := hX1
  go_wp2_with fail
  clear xs1 xs2 k0 k1 k2 lxb lpb
  refine (long_any p (W3.drewN x1) p0 p1 p2).mono ?_
  rintro e w4 ⟨rfl, hc⟩
  have M4 := hid ((M3.out.drewN x1).keep hc)
  clear hc
  obtain ⟨lp, hlp⟩ : ∃ x, x = Dl.long p := ⟨_, rfl⟩
  rw [← hlp]
  rw [← hlp] at hn2
  by_cases hlt : (n : Int) < lp
  · have d1 : decide ((n : Int) < lp) = true := decide_eq_true hlt
    have HPART := hid (show Dl.part p n = Dl.cut1 p n ∧ Dl.left p l n = Dl.cut2 p n :: l from by
      unfold Dl.part Dl.left
      rw [← hlp, if_pos hlt, if_pos hlt]
      exact ⟨rfl, rfl⟩)
    clear hlp
    go_wp2_with fail
    repeat (first | (refine Mix.mix_q (by simp only [List.getElem?_toArray, List.getElem?_cons_zero, List.getElem?_cons_succ]; exact rfl) rfl ?_; go_big_quiet_step (fail); refine wpQuiet_nil ?_) | (refine Mix.mix_p (by simp only [List.getElem?_toArray, List.getElem?_cons_zero, List.getElem?_cons_succ]; exact rfl) rfl rfl ?_; go_big_quiet_step (fail); refine wpQuiet_nil ?_))
    intro y1
    refine at_world fun W5 hW5 => ?_
    have M5 := hid (show Mem B w0 (blkR pb 128 #[.int .u8 p.k, .int .i64 p.n, .string p.s] :: blkR r4 128 #[.int .u8 0, .int .i64 0, .string ⟨#[]⟩] :: rdR B xb g (p :: l) :: L2) W5 from hW5 ▸ M4.out.drewN y1)
    clear hW5
    have x0 := (show (rdR B xb g (p :: l)).holds W5 from M5.out.each 2 _ rfl)
    obtain ⟨A0, c0, o0, cs0, hx0⟩ := x0
    have xs1 : W5.cell? ⟨xb, 1, none⟩ = some F1v := hx0.hb.cell 1
    have xs2 : W5.cell? ⟨xb, 2, none⟩ = some F2v := hx0.hb.cell 2
    have lxb := hx0.hb.lt
    clear hx0
    unfold F1v at xs1
    unfold F2v at xs2
    have k0 : W5.cell? ⟨pb, 0, none⟩ = some (.int .u8 p.k) := Blk.cell (M5.out.each 0 _ rfl) 0
    have k1 : W5.cell? ⟨pb, 1, none⟩ = some (.int .i64 p.n) := Blk.cell (M5.out.each 0 _ rfl) 1
    have k2 : W5.cell? ⟨pb, 2, none⟩ = some (.string p.s) := Blk.cell (M5.out.each 0 _ rfl) 2
    obtain ⟨S, hS⟩ : ∃ S : Nat → Prop, ∀ k, S k ↔ (k = xb ∨ k = pb) := ⟨_, fun _ => Iff.rfl⟩
    have hS0 : Mix.Has S xb := (hS _).2 (.inl rfl)
    have hS1 : Mix.Has S pb := (hS _).2 (.inr rfl)
    have HS := hid hS
    clear hS
    have lpb := Blk.lt (M5.out.each 0 _ rfl)
    go_wp2_with fail
    refine Mix.wp_region_XJ S (fun i => ([1, 1, 1, 4, 4, 1, 3, 1, 1, 1, 3, 3, 2, 2] : List Nat).getD i 0) (fun a0 a' w' => ∃ b6 b7, a' = ((((((((((((a0.put (some 19) (.pointer (some ⟨xb, 0, none⟩))).put (some 20) (.pointer (some ⟨xb, 0, none⟩))).put (some 21) (.pointer (some ⟨xb, 2, none⟩))).put (some 22) (.func (Fn.func 168) #[] #[])).put (some 23) (.agg #[.int .u8 p.k, .int .i64 p.n, .string p.s])).put (some 24) (.int .i64 (n : Int))).put (some 25) (.tuple #[(.agg #[.int .u8 (Dl.cut1 p n).k, .int .i64 (Dl.cut1 p n).n, .string (Dl.cut1 p n).s]), (.agg #[.int .u8 (Dl.cut2 p n).k, .int .i64 (Dl.cut2 p n).n, .string (Dl.cut2 p n).s])])).put (some 18) (.tuple #[(.agg #[.int .u8 (Dl.cut1 p n).k, .int .i64 (Dl.cut1 p n).n, .string (Dl.cut1 p n).s]), (.agg #[.int .u8 (Dl.cut2 p n).k, .int .i64 (Dl.cut2 p n).n, .string (Dl.cut2 p n).s])])).put (some 26) (.agg #[.int .u8 (Dl.cut1 p n).k, .int .i64 (Dl.cut1 p n).n, .string (Dl.cut1 p n).s])).put (some 27) (.agg #[.int .u8 (Dl.cut2 p n).k, .int .i64 (Dl.cut2 p n).n, .string (Dl.cut2 p n).s])).put (some 6) (.pointer (some ⟨b6, 0, none⟩))).put (some 7) (.pointer (some ⟨b7, 0, none⟩))) ∧ Mem B w0 (blkR b6 128 (Dl.cut1 p n).cells.toArray :: blkR b7 128 (Dl.cut2 p n).cells.toArray :: blkR pb 128 #[.int .u8 p.k, .int .i64 p.n, .string p.s] :: blkR r4 128 #[.int .u8 0, .int .i64 0, .string ⟨#[]⟩] :: rdR B xb g (p :: l) :: L2) w') (by kernel_rfl) ?_ ?_
    · refine Mix.wpX_prefix (fuel := 8) (by kernel_rfl) [0, 1, 2, 3, 4, 5] _ _ _ (by kernel_rfl) ?_
      repeat (first | (refine Mix.mix_p (by simp only [List.getElem?_toArray, List.getElem?_cons_zero, List.getElem?_cons_succ]; exact rfl) rfl rfl ?_; go_big_quiet_step (fail); refine wpQuiet_nil ?_) | (refine Mix.mix_s (by simp only [List.getElem?_toArray, List.getElem?_cons_zero, List.getElem?_cons_succ]; exact rfl) rfl rfl ?_; go_big_quiet_step (fail); refine wpQuiet_nil ?_))
      intro m0
      refine Mix.wpX_world fun V0 hV0 => ?_
      have MV0 := hid (show Mem B w0 (blkR pb 128 #[.int .u8 p.k, .int .i64 p.n, .string p.s] :: blkR r4 128 #[.int .u8 0, .int .i64 0, .string ⟨#[]⟩] :: rdR B xb g (p :: l) :: L2) V0 from hV0 ▸ M5.out.drewN m0)
      clear hV0 xs1 xs2 k0 k1 k2 lxb lpb
      refine Mix.wpX_three 6 10 11 (by kernel_rfl) ?_ ?_ ?_
      · refine Mix.mix_a (by simp only [List.getElem?_toArray, List.getElem?_cons_zero, List.getElem?_cons_succ]; exact rfl) rfl fun Y1 hY1 => ?_
        obtain ⟨y1, rfl⟩ := hY1
        go_wp2_with fail
        refine (split_any p n (V0.drewN y1) p0 p1 p2 p3 p4).mono ?_
        rintro e V1 ⟨rfl, hc⟩
        have M1 := hid (show Mem B w0 (blkR pb 128 #[.int .u8 p.k, .int .i64 p.n, .string p.s] :: blkR r4 128 #[.int .u8 0, .int .i64 0, .string ⟨#[]⟩] :: rdR B xb g (p :: l) :: L2) V1 from (MV0.out.drewN y1).keep hc)
        have C1 := hid (((Ch.refl (fun _ => False) V0).drewN y1).trans hc (fun _ _ h => h))
        clear hc
        simp only [Pc.agg]
        go_wp2_with fail
        refine ⟨fun j hj => (C1.out).block j (by rcases (HS.out j).1 hj with e | e <;> rw [e] <;> first | exact (show (rdR B xb g (p :: l)).holds _ from MV0.out.each 2 _ rfl).choose_spec.choose_spec.choose_spec.choose_spec.hb.lt | exact Blk.lt (MV0.out.each 0 _ rfl)) id, ?_⟩
        clear C1
        intro m1
        refine Mix.wpX_world fun U1 hU1 => ?_
        have N1 := hid (show Mem B w0 (blkR pb 128 #[.int .u8 p.k, .int .i64 p.n, .string p.s] :: blkR r4 128 #[.int .u8 0, .int .i64 0, .string ⟨#[]⟩] :: rdR B xb g (p :: l) :: L2) U1 from hU1 ▸ M1.out.drewN m1)
        clear hU1 M1
        refine Mix.wpX_prefix (fuel := 4) (by kernel_rfl) [7, 8, 9] _ _ _ (by kernel_rfl) ?_
        repeat (first | (refine Mix.mix_p (by simp only [List.getElem?_toArray, List.getElem?_cons_zero, List.getElem?_cons_succ]; exact rfl) rfl rfl ?_; go_big_quiet_step (fail); refine wpQuiet_nil ?_) | (refine Mix.mix_q (by simp only [List.getElem?_toArray, List.getElem?_cons_zero, List.getElem?_cons_succ]; exact rfl) rfl ?_; go_big_quiet_step (fail); refine wpQuiet_nil ?_) | (refine Mix.mix_s (by simp only [List.getElem?_toArray, List.getElem?_cons_zero, List.getElem?_cons_succ]; exact rfl) rfl rfl ?_; go_big_quiet_step (fail); refine wpQuiet_nil ?_))
        intro m2
        refine Mix.wpX_world fun U2 hU2 => ?_
        have N2 := hid (show Mem B w0 (blkR pb 128 #[.int .u8 p.k, .int .i64 p.n, .string p.s] :: blkR r4 128 #[.int .u8 0, .int .i64 0, .string ⟨#[]⟩] :: rdR B xb g (p :: l) :: L2) U2 from hU2 ▸ N1.out.drewN m2)
        clear hU2
        refine Mix.wpX_two 10 11 (by kernel_rfl) ?_ ?_
        · refine Mix.mix_a (by simp only [List.getElem?_toArray, List.getElem?_cons_zero, List.getElem?_cons_succ]; exact rfl) rfl fun Y3 hY3 => ?_
          obtain ⟨y3, rfl⟩ := hY3
          go_wp2_with fail
          refine ⟨fun j hj => (((Ch.refl (fun _ => False) U2).drewN y3).alloc _).block j (by rcases (HS.out j).1 hj with e | e <;> rw [e] <;> first | exact (show (rdR B xb g (p :: l)).holds _ from N2.out.each 2 _ rfl).choose_spec.choose_spec.choose_spec.choose_spec.hb.lt | exact Blk.lt (N2.out.each 0 _ rfl)) id, ?_⟩
          intro m3
          refine Mix.wpX_world fun V3 hV3 => ?_
          obtain ⟨b6, hb6⟩ : ∃ b, b = U2.heap.size := ⟨_, rfl⟩
          have M3 := hid (show Mem B w0 (blkR b6 128 #[.int .u8 0, .int .i64 0, .string ⟨#[]⟩] :: blkR pb 128 #[.int .u8 p.k, .int .i64 p.n, .string p.s] :: blkR r4 128 #[.int .u8 0, .int .i64 0, .string ⟨#[]⟩] :: rdR B xb g (p :: l) :: L2) V3 from by rw [hV3, hb6]; exact ((N2.out.drewN y3).cons (blkR U2.heap.size 128 #[.int .u8 0, .int .i64 0, .string ⟨#[]⟩]) ((Ch.refl _ _).alloc _) (Blk.new (U2.drewN y3) _ _) (fun k e => Nat.le_of_eq e.symm)).drewN m3)
          rw [← hb6]
          clear hV3 hb6
          refine Mix.wpX_prefix (fuel := 2) (by kernel_rfl) [11] _ _ _ (by kernel_rfl) ?_
          refine Mix.mix_a (by simp only [List.getElem?_toArray, List.getElem?_cons_zero, List.getElem?_cons_succ]; exact rfl) rfl fun Y4 hY4 => ?_
          obtain ⟨y4, rfl⟩ := hY4
          go_wp2_with fail
          refine ⟨fun j hj => (((Ch.refl (fun _ => False) V3).drewN y4).alloc _).block j (by rcases (HS.out j).1 hj with e | e <;> rw [e] <;> first | exact (show (rdR B xb g (p :: l)).holds _ from M3.out.each 3 _ rfl).choose_spec.choose_spec.choose_spec.choose_spec.hb.lt | exact Blk.lt (M3.out.each 1 _ rfl)) id, ?_⟩
          intro m4
          refine Mix.wpX_world fun V4 hV4 => ?_
          obtain ⟨b7, hb7⟩ : ∃ b, b = V3.heap.size := ⟨_, rfl⟩
          have M4 := hid (show Mem B w0 (blkR b7 128 #[.int .u8 0, .int .i64 0, .string ⟨#[]⟩] :: blkR b6 128 #[.int .u8 0, .int .i64 0, .string ⟨#[]⟩] :: blkR pb 128 #[.int .u8 p.k, .int .i64 p.n, .string p.s] :: blkR r4 128 #[.int .u8 0, .int .i64 0, .string ⟨#[]⟩] :: rdR B xb g (p :: l) :: L2) V4 from by rw [hV4, hb7]; exact ((M3.out.drewN y4).cons (blkR V3.heap.size 128 #[.int .u8 0, .int .i64 0, .string ⟨#[]⟩]) ((Ch.refl _ _).alloc _) (Blk.new (V3.drewN y4) _ _) (fun k e => Nat.le_of_eq e.symm)).drewN m4)
          rw [← hb7]
          clear hV4 hb7
          refine Mix.wpX_prefix (fuel := 0) (by kernel_rfl) [12, 13] _ _ _ (by kernel_rfl) ?_
          have z60 : V4.cell? ⟨b6, 0, none⟩ = some (.int .u8 0) := Blk.cell (M4.out.each 1 _ rfl) 0
          have f60 := Blk.free (M4.out.each 1 _ rfl) 0
          have z61 : V4.cell? ⟨b6, 1, none⟩ = some (.int .i64 0) := Blk.cell (M4.out.each 1 _ rfl) 1
          have f61 := Blk.free (M4.out.each 1 _ rfl) 1
          have z62 : V4.cell? ⟨b6, 2, none⟩ = some (.string ⟨#[]⟩) := Blk.cell (M4.out.each 1 _ rfl) 2
          have f62 := Blk.free (M4.out.each 1 _ rfl) 2
          have z70 : V4.cell? ⟨b7, 0, none⟩ = some (.int .u8 0) := Blk.cell (M4.out.each 0 _ rfl) 0
          have f70 := Blk.free (M4.out.each 0 _ rfl) 0
          have z71 : V4.cell? ⟨b7, 1, none⟩ = some (.int .i64 0) := Blk.cell (M4.out.each 0 _ rfl) 1
          have f71 := Blk.free (M4.out.each 0 _ rfl) 1
          have z72 : V4.cell? ⟨b7, 2, none⟩ = some (.string ⟨#[]⟩) := Blk.cell (M4.out.each 0 _ rfl) 2
          have f72 := Blk.free (M4.out.each 0 _ rfl) 2
          have ne67 : b6 ≠ b7 := fun e => M4.out.apart 1 0 _ _ rfl rfl (by decide) b6 rfl e
          have ne76 : b7 ≠ b6 := Ne.symm ne67
          have i6 := Blk.lt (M4.out.each 1 _ rfl)
          have i7 := Blk.lt (M4.out.each 0 _ rfl)
          refine Mix.mix_e (by simp only [List.getElem?_toArray, List.getElem?_cons_zero, List.getElem?_cons_succ]; exact rfl) rfl fun X5 hX5 => ?_
          obtain ⟨x5, rfl⟩ := hX5
          go_wp2_with fail
          refine Mix.mix_e (by simp only [List.getElem?_toArray, List.getElem?_cons_zero, List.getElem?_cons_succ]; exact rfl) rfl fun Z5 hZ5 => ?_
          obtain ⟨t5, rfl⟩ := hZ5
          go_wp2_with fail
          intro s5
          refine Mix.wpX_done (by kernel_rfl) ?_
          intro r5
          refine ⟨b6, b7, ?_, ?_⟩
          · simp only [Act.put, List.setIfInBounds_toArray, List.set_cons_succ, List.set_cons_zero, Pc.agg]
          · have t := ((((((((M4.out.drewN x5).put (i := 1) rfl 0 (.int .u8 (Dl.cut1 p n).k)).put (i := 1) rfl 1 (.int .i64 (Dl.cut1 p n).n)).put (i := 1) rfl 2 (.string (Dl.cut1 p n).s)).drewN t5).put (i := 0) rfl 0 (.int .u8 (Dl.cut2 p n).k)).put (i := 0) rfl 1 (.int .i64 (Dl.cut2 p n).n)).put (i := 0) rfl 2 (.string (Dl.cut2 p n).s)).drewN s5 |>.drewN r5
            exact t.perm (List.Perm.swap _ _ _)
        · refine Mix.mix_a (by simp only [List.getElem?_toArray, List.getElem?_cons_zero, List.getElem?_cons_succ]; exact rfl) rfl fun Y6 hY6 => ?_
          obtain ⟨y6, rfl⟩ := hY6
          go_wp2_with fail
          refine ⟨fun j hj => (((Ch.refl (fun _ => False) U2).drewN y6).alloc _).block j (by rcases (HS.out j).1 hj with e | e <;> rw [e] <;> first | exact (show (rdR B xb g (p :: l)).holds _ from N2.out.each 2 _ rfl).choose_spec.choose_spec.choose_spec.choose_spec.hb.lt | exact Blk.lt (N2.out.each 0 _ rfl)) id, ?_⟩
          intro m6
          refine Mix.wpX_world fun V6 hV6 => ?_
          obtain ⟨b7, hb7⟩ : ∃ b, b = U2.heap.size := ⟨_, rfl⟩
          have M6 := hid (show Mem B w0 (blkR b7 128 #[.int .u8 0, .int .i64 0, .string ⟨#[]⟩] :: blkR pb 128 #[.int .u8 p.k, .int .i64 p.n, .string p.s] :: blkR r4 128 #[.int .u8 0, .int .i64 0, .string ⟨#[]⟩] :: rdR B xb g (p :: l) :: L2) V6 from by rw [hV6, hb7]; exact ((N2.out.drewN y6).cons (blkR U2.heap.size 128 #[.int .u8 0, .int .i64 0, .string ⟨#[]⟩]) ((Ch.refl _ _).alloc _) (Blk.new (U2.drewN y6) _ _) (fun k e => Nat.le_of_eq e.symm)).drewN m6)
          rw [← hb7]
          clear hV6 hb7
          refine Mix.wpX_prefix (fuel := 2) (by kernel_rfl) [10] _ _ _ (by kernel_rfl) ?_
          refine Mix.mix_a (by simp only [List.getElem?_toArray, List.getElem?_cons_zero, List.getElem?_cons_succ]; exact rfl) rfl fun Y7 hY7 => ?_
          obtain ⟨y7, rfl⟩ := hY7
          go_wp2_with fail
          refine ⟨fun j hj => (((Ch.refl (fun _ => False) V6).drewN y7).alloc _).block j (by rcases (HS.out j).1 hj with e | e <;> rw [e] <;> first | exact (show (rdR B xb g (p :: l)).holds _ from M6.out.each 3 _ rfl).choose_spec.choose_spec.choose_spec.choose_spec.hb.lt | exact Blk.lt (M6.out.each 1 _ rfl)) id, ?_⟩
          intro m7
          refine Mix.wpX_world fun V7 hV7 => ?_
          obtain ⟨b6, hb6⟩ : ∃ b, b = V6.heap.size := ⟨_, rfl⟩
          have M7 := hid (show Mem B w0 (blkR b6 128 #[.int .u8 0, .int .i64 0, .string ⟨#[]⟩] :: blkR b7 128 #[.int .u8 0, .int .i64 0, .string ⟨#[]⟩] :: blkR pb 128 #[.int .u8 p.k, .int .i64 p.n, .string p.s] :: blkR r4 128 #[.int .u8 0, .int .i64 0, .string ⟨#[]⟩] :: rdR B xb g (p :: l) :: L2) V7 from by rw [hV7, hb6]; exact ((M6.out.drewN y7).cons (blkR V6.heap.size 128 #[.int .u8 0, .int .i64 0, .string ⟨#[]⟩]) ((Ch.refl _ _).alloc _) (Blk.new (V6.drewN y7) _ _) (fun k e => Nat.le_of_eq e.symm)).drewN m7)
          rw [← hb6]
          clear hV7 hb6
          refine Mix.wpX_prefix (fuel := 0) (by kernel_rfl) [12, 13] _ _ _ (by kernel_rfl) ?_
          have z60 : V7.cell? ⟨b6, 0, none⟩ = some (.int .u8 0) := Blk.cell (M7.out.each 0 _ rfl) 0
          have f60 := Blk.free (M7.out.each 0 _ rfl) 0
          have z61 : V7.cell? ⟨b6, 1, none⟩ = some (.int .i64 0) := Blk.cell (M7.out.each 0 _ rfl) 1
          have f61 := Blk.free (M7.out.each 0 _ rfl) 1
          have z62 : V7.cell? ⟨b6, 2, none⟩ = some (.string ⟨#[]⟩) := Blk.cell (M7.out.each 0 _ rfl) 2
          have f62 := Blk.free (M7.out.each 0 _ rfl) 2
          have z70 : V7.cell? ⟨b7, 0, none⟩ = some (.int .u8 0) := Blk.cell (M7.out.each 1 _ rfl) 0
          have f70 := Blk.free (M7.out.each 1 _ rfl) 0
          have z71 : V7.cell? ⟨b7, 1, none⟩ = some (.int .i64 0) := Blk.cell (M7.out.each 1 _ rfl) 1
          have f71 := Blk.free (M7.out.each 1 _ rfl) 1
          have z72 : V7.cell? ⟨b7, 2, none⟩ = some (.string ⟨#[]⟩) := Blk.cell (M7.out.each 1 _ rfl) 2
          have f72 := Blk.free (M7.out.each 1 _ rfl) 2
          have ne67 : b6 ≠ b7 := fun e => M7.out.apart 0 1 _ _ rfl rfl (by decide) b6 rfl e
          have ne76 : b7 ≠ b6 := Ne.symm ne67
          have i6 := Blk.lt (M7.out.each 0 _ rfl)
          have i7 := Blk.lt (M7.out.each 1 _ rfl)
          refine Mix.mix_e (by simp only [List.getElem?_toArray, List.getElem?_cons_zero, List.getElem?_cons_succ]; exact rfl) rfl fun X8 hX8 => ?_
          obtain ⟨x8, rfl⟩ := hX8
          go_wp2_with fail
          refine Mix.mix_e (by simp only [List.getElem?_toArray, List.getElem?_cons_zero, List.getElem?_cons_succ]; exact rfl) rfl fun Z8 hZ8 => ?_
          obtain ⟨t8, rfl⟩ := hZ8
          go_wp2_with fail
          intro s8
          refine Mix.wpX_done (by kernel_rfl) ?_
          intro r8
          refine ⟨b6, b7, ?_, ?_⟩
          · simp only [Act.put, List.setIfInBounds_toArray, List.set_cons_succ, List.set_cons_zero, Pc.agg]
          · have t := ((((((((M7.out.drewN x8).put (i := 0) rfl 0 (.int .u8 (Dl.cut1 p n).k)).put (i := 0) rfl 1 (.int .i64 (Dl.cut1 p n).n)).put (i := 0) rfl 2 (.string (Dl.cut1 p n).s)).drewN t8).put (i := 1) rfl 0 (.int .u8 (Dl.cut2 p n).k)).put (i := 1) rfl 1 (.int .i64 (Dl.cut2 p n).n)).put (i := 1) rfl 2 (.string (Dl.cut2 p n).s)).drewN s8 |>.drewN r8
            exact t
      · refine Mix.mix_a (by simp only [List.getElem?_toArray, List.getElem?_cons_zero, List.getElem?_cons_succ]; exact rfl) rfl fun Y9 hY9 => ?_
        obtain ⟨y9, rfl⟩ := hY9
        go_wp2_with fail
        refine ⟨fun j hj => (((Ch.refl (fun _ => False) V0).drewN y9).alloc _).block j (by rcases (HS.out j).1 hj with e | e <;> rw [e] <;> first | exact (show (rdR B xb g (p :: l)).holds _ from MV0.out.each 2 _ rfl).choose_spec.choose_spec.choose_spec.choose_spec.hb.lt | exact Blk.lt (MV0.out.each 0 _ rfl)) id, ?_⟩
        intro m9
        refine Mix.wpX_world fun V9 hV9 => ?_
        obtain ⟨b6, hb6⟩ : ∃ b, b = V0.heap.size := ⟨_, rfl⟩
        have M9 := hid (show Mem B w0 (blkR b6 128 #[.int .u8 0, .int .i64 0, .string ⟨#[]⟩] :: blkR pb 128 #[.int .u8 p.k, .int .i64 p.n, .string p.s] :: blkR r4 128 #[.int .u8 0, .int .i64 0, .string ⟨#[]⟩] :: rdR B xb g (p :: l) :: L2) V9 from by rw [hV9, hb6]; exact ((MV0.out.drewN y9).cons (blkR V0.heap.size 128 #[.int .u8 0, .int .i64 0, .string ⟨#[]⟩]) ((Ch.refl _ _).alloc _) (Blk.new (V0.drewN y9) _ _) (fun k e => Nat.le_of_eq e.symm)).drewN m9)
        rw [← hb6]
        clear hV9 hb6
        refine Mix.wpX_two 6 11 (by kernel_rfl) ?_ ?_
        · refine Mix.mix_a (by simp only [List.getElem?_toArray, List.getElem?_cons_zero, List.getElem?_cons_succ]; exact rfl) rfl fun Y10 hY10 => ?_
          obtain ⟨y10, rfl⟩ := hY10
          go_wp2_with fail
          refine (split_any p n (V9.drewN y10) p0 p1 p2 p3 p4).mono ?_
          rintro e V10 ⟨rfl, hc⟩
          have M10 := hid (show Mem B w0 (blkR b6 128 #[.int .u8 0, .int .i64 0, .string ⟨#[]⟩] :: blkR pb 128 #[.int .u8 p.k, .int .i64 p.n, .string p.s] :: blkR r4 128 #[.int .u8 0, .int .i64 0, .string ⟨#[]⟩] :: rdR B xb g (p :: l) :: L2) V10 from (M9.out.drewN y10).keep hc)
          have C10 := hid (((Ch.refl (fun _ => False) V9).drewN y10).trans hc (fun _ _ h => h))
          clear hc
          simp only [Pc.agg]
          go_wp2_with fail
          refine ⟨fun j hj => (C10.out).block j (by rcases (HS.out j).1 hj with e | e <;> rw [e] <;> first | exact (show (rdR B xb g (p :: l)).holds _ from M9.out.each 3 _ rfl).choose_spec.choose_spec.choose_spec.choose_spec.hb.lt | exact Blk.lt (M9.out.each 1 _ rfl)) id, ?_⟩
          clear C10
          intro m10
          refine Mix.wpX_world fun U10 hU10 => ?_
          have N10 := hid (show Mem B w0 (blkR b6 128 #[.int .u8 0, .int .i64 0, .string ⟨#[]⟩] :: blkR pb 128 #[.int .u8 p.k, .int .i64 p.n, .string p.s] :: blkR r4 128 #[.int .u8 0, .int .i64 0, .string ⟨#[]⟩] :: rdR B xb g (p :: l) :: L2) U10 from hU10 ▸ M10.out.drewN m10)
          clear hU10 M10
          refine Mix.wpX_prefix (fuel := 3) (by kernel_rfl) [7, 8, 9] _ _ _ (by kernel_rfl) ?_
          repeat (first | (refine Mix.mix_p (by simp only [List.getElem?_toArray, List.getElem?_cons_zero, List.getElem?_cons_succ]; exact rfl) rfl rfl ?_; go_big_quiet_step (fail); refine wpQuiet_nil ?_) | (refine Mix.mix_q (by simp only [List.getElem?_toArray, List.getElem?_cons_zero, List.getElem?_cons_succ]; exact rfl) rfl ?_; go_big_quiet_step (fail); refine wpQuiet_nil ?_) | (refine Mix.mix_s (by simp only [List.getElem?_toArray, List.getElem?_cons_zero, List.getElem?_cons_succ]; exact rfl) rfl rfl ?_; go_big_quiet_step (fail); refine wpQuiet_nil ?_))
          intro m11
          refine Mix.wpX_world fun U11 hU11 => ?_
          have N11 := hid (show Mem B w0 (blkR b6 128 #[.int .u8 0, .int .i64 0, .string ⟨#[]⟩] :: blkR pb 128 #[.int .u8 p.k, .int .i64 p.n, .string p.s] :: blkR r4 128 #[.int .u8 0, .int .i64 0, .string ⟨#[]⟩] :: rdR B xb g (p :: l) :: L2) U11 from hU11 ▸ N10.out.drewN m11)
          clear hU11
          refine Mix.wpX_prefix (fuel := 2) (by kernel_rfl) [11] _ _ _ (by kernel_rfl) ?_
          refine Mix.mix_a (by simp only [List.getElem?_toArray, List.getElem?_cons_zero, List.getElem?_cons_succ]; exact rfl) rfl fun Y12 hY12 => ?_
          obtain ⟨y12, rfl⟩ := hY12
          go_wp2_with fail
          refine ⟨fun j hj => (((Ch.refl (fun _ => False) U11).drewN y12).alloc _).block j (by rcases (HS.out j).1 hj with e | e <;> rw [e] <;> first | exact (show (rdR B xb g (p :: l)).holds _ from N11.out.each 3 _ rfl).choose_spec.choose_spec.choose_spec.choose_spec.hb.lt | exact Blk.lt (N11.out.each 1 _ rfl)) id, ?_⟩
          intro m12
          refine Mix.wpX_world fun V12 hV12 => ?_
          obtain ⟨b7, hb7⟩ : ∃ b, b = U11.heap.size := ⟨_, rfl⟩
          have M12 := hid (show Mem B w0 (blkR b7 128 #[.int .u8 0, .int .i64 0, .string ⟨#[]⟩] :: blkR b6 128 #[.int .u8 0, .int .i64 0, .string ⟨#[]⟩] :: blkR pb 128 #[.int .u8 p.k, .int .i64 p.n, .string p.s] :: blkR r4 128 #[.int .u8 0, .int .i64 0, .string ⟨#[]⟩] :: rdR B xb g (p :: l) :: L2) V12 from by rw [hV12, hb7]; exact ((N11.out.drewN y12).cons (blkR U11.heap.size 128 #[.int .u8 0, .int .i64 0, .string ⟨#[]⟩]) ((Ch.refl _ _).alloc _) (Blk.new (U11.drewN y12) _ _) (fun k e => Nat.le_of_eq e.symm)).drewN m12)
          rw [← hb7]
          clear hV12 hb7
          refine Mix.wpX_prefix (fuel := 0) (by kernel_rfl) [12, 13] _ _ _ (by kernel_rfl) ?_
          have z60 : V12.cell? ⟨b6, 0, none⟩ = some (.int .u8 0) := Blk.cell (M12.out.each 1 _ rfl) 0
          have f60 := Blk.free (M12.out.each 1 _ rfl) 0
          have z61 : V12.cell? ⟨b6, 1, none⟩ = some (.int .i64 0) := Blk.cell (M12.out.each 1 _ rfl) 1
          have f61 := Blk.free (M12.out.each 1 _ rfl) 1
          have z62 : V12.cell? ⟨b6, 2, none⟩ = some (.string ⟨#[]⟩) := Blk.cell (M12.out.each 1 _ rfl) 2
          have f62 := Blk.free (M12.out.each 1 _ rfl) 2
          have z70 : V12.cell? ⟨b7, 0, none⟩ = some (.int .u8 0) := Blk.cell (M12.out.each 0 _ rfl) 0
          have f70 := Blk.free (M12.out.each 0 _ rfl) 0
          have z71 : V12.cell? ⟨b7, 1, none⟩ = some (.int .i64 0) := Blk.cell (M12.out.each 0 _ rfl) 1
          have f71 := Blk.free (M12.out.each 0 _ rfl) 1
          have z72 : V12.cell? ⟨b7, 2, none⟩ = some (.string ⟨#[]⟩) := Blk.cell (M12.out.each 0 _ rfl) 2
          have f72 := Blk.free (M12.out.each 0 _ rfl) 2
          have ne67 : b6 ≠ b7 := fun e => M12.out.apart 1 0 _ _ rfl rfl (by decide) b6 rfl e
          have ne76 : b7 ≠ b6 := Ne.symm ne67
          have i6 := Blk.lt (M12.out.each 1 _ rfl)
          have i7 := Blk.lt (M12.out.each 0 _ rfl)
          refine Mix.mix_e (by simp only [List.getElem?_toArray, List.getElem?_cons_zero, List.getElem?_cons_succ]; exact rfl) rfl fun X13 hX13 => ?_
          obtain ⟨x13, rfl⟩ := hX13
          go_wp2_with fail
          refine Mix.mix_e (by simp only [List.getElem?_toArray, List.getElem?_cons_zero, List.getElem?_cons_succ]; exact rfl) rfl fun Z13 hZ13 => ?_
          obtain ⟨t13, rfl⟩ := hZ13
          go_wp2_with fail
          intro s13
          refine Mix.wpX_done (by kernel_rfl) ?_
          intro r13
          refine ⟨b6, b7, ?_, ?_⟩
          · simp only [Act.put, List.setIfInBounds_toArray, List.set_cons_succ, List.set_cons_zero, Pc.agg]
          · have t := ((((((((M12.out.drewN x13).put (i := 1) rfl 0 (.int .u8 (Dl.cut1 p n).k)).put (i := 1) rfl 1 (.int .i64 (Dl.cut1 p n).n)).put (i := 1) rfl 2 (.string (Dl.cut1 p n).s)).drewN t13).put (i := 0) rfl 0 (.int .u8 (Dl.cut2 p n).k)).put (i := 0) rfl 1 (.int .i64 (Dl.cut2 p n).n)).put (i := 0) rfl 2 (.string (Dl.cut2 p n).s)).drewN s13 |>.drewN r13
            exact t.perm (List.Perm.swap _ _ _)
        · refine Mix.mix_a (by simp only [List.getElem?_toArray, List.getElem?_cons_zero, List.getElem?_cons_succ]; exact rfl) rfl fun Y14 hY14 => ?_
          obtain ⟨y14, rfl⟩ := hY14
          go_wp2_with fail
          refine ⟨fun j hj => (((Ch.refl (fun _ => False) V9).drewN y14).alloc _).block j (by rcases (HS.out j).1 hj with e | e <;> rw [e] <;> first | exact (show (rdR B xb g (p :: l)).holds _ from M9.out.each 3 _ rfl).choose_spec.choose_spec.choose_spec.choose_spec.hb.lt | exact Blk.lt (M9.out.each 1 _ rfl)) id, ?_⟩
          intro m14
          refine Mix.wpX_world fun V14 hV14 => ?_
          obtain ⟨b7, hb7⟩ : ∃ b, b = V9.heap.size := ⟨_, rfl⟩
          have M14 := hid (show Mem B w0 (blkR b7 128 #[.int .u8 0, .int .i64 0, .string ⟨#[]⟩] :: blkR b6 128 #[.int .u8 0, .int .i64 0, .string ⟨#[]⟩] :: blkR pb 128 #[.int .u8 p.k, .int .i64 p.n, .string p.s] :: blkR r4 128 #[.int .u8 0, .int .i64 0, .string ⟨#[]⟩] :: rdR B xb g (p :: l) :: L2) V14 from by rw [hV14, hb7]; exact ((M9.out.drewN y14).cons (blkR V9.heap.size 128 #[.int .u8 0, .int .i64 0, .string ⟨#[]⟩]) ((Ch.refl _ _).alloc _) (Blk.new (V9.drewN y14) _ _) (fun k e => Nat.le_of_eq e.symm)).drewN m14)
          rw [← hb7]
          clear hV14 hb7
          refine Mix.wpX_prefix (fuel := 5) (by kernel_rfl) [6] _ _ _ (by kernel_rfl) ?_
          refine Mix.mix_a (by simp only [List.getElem?_toArray, List.getElem?_cons_zero, List.getElem?_cons_succ]; exact rfl) rfl fun Y15 hY15 => ?_
          obtain ⟨y15, rfl⟩ := hY15
          go_wp2_with fail
          refine (split_any p n (V14.drewN y15) p0 p1 p2 p3 p4).mono ?_
          rintro e V15 ⟨rfl, hc⟩
          have M15 := hid (show Mem B w0 (blkR b7 128 #[.int .u8 0, .int .i64 0, .string ⟨#[]⟩] :: blkR b6 128 #[.int .u8 0, .int .i64 0, .string ⟨#[]⟩] :: blkR pb 128 #[.int .u8 p.k, .int .i64 p.n, .string p.s] :: blkR r4 128 #[.int .u8 0, .int .i64 0, .string ⟨#[]⟩] :: rdR B xb g (p :: l) :: L2) V15 from (M14.out.drewN y15).keep hc)
          have C15 := hid (((Ch.refl (fun _ => False) V14).drewN y15).trans hc (fun _ _ h => h))
          clear hc
          simp only [Pc.agg]
          go_wp2_with fail
          refine ⟨fun j hj => (C15.out).block j (by rcases (HS.out j).1 hj with e | e <;> rw [e] <;> first | exact (show (rdR B xb g (p :: l)).holds _ from M14.out.each 4 _ rfl).choose_spec.choose_spec.choose_spec.choose_spec.hb.lt | exact Blk.lt (M14.out.each 2 _ rfl)) id, ?_⟩
          clear C15
          intro m15
          refine Mix.wpX_world fun U15 hU15 => ?_
          have N15 := hid (show Mem B w0 (blkR b7 128 #[.int .u8 0, .int .i64 0, .string ⟨#[]⟩] :: blkR b6 128 #[.int .u8 0, .int .i64 0, .string ⟨#[]⟩] :: blkR pb 128 #[.int .u8 p.k, .int .i64 p.n, .string p.s] :: blkR r4 128 #[.int .u8 0, .int .i64 0, .string ⟨#[]⟩] :: rdR B xb g (p :: l) :: L2) U15 from hU15 ▸ M15.out.drewN m15)
          clear hU15 M15
          refine Mix.wpX_prefix (fuel := 2) (by kernel_rfl) [7, 8, 9] _ _ _ (by kernel_rfl) ?_
          repeat (first | (refine Mix.mix_p (by simp only [List.getElem?_toArray, List.getElem?_cons_zero, List.getElem?_cons_succ]; exact rfl) rfl rfl ?_; go_big_quiet_step (fail); refine wpQuiet_nil ?_) | (refine Mix.mix_q (by simp only [List.getElem?_toArray, List.getElem?_cons_zero, List.getElem?_cons_succ]; exact rfl) rfl ?_; go_big_quiet_step (fail); refine wpQuiet_nil ?_) | (refine Mix.mix_s (by simp only [List.getElem?_toArray, List.getElem?_cons_zero, List.getElem?_cons_succ]; exact rfl) rfl rfl ?_; go_big_quiet_step (fail); refine wpQuiet_nil ?_))
          intro m16
          refine Mix.wpX_world fun U16 hU16 => ?_
          have N16 := hid (show Mem B w0 (blkR b7 128 #[.int .u8 0, .int .i64 0, .string ⟨#[]⟩] :: blkR b6 128 #[.int .u8 0, .int .i64 0, .string ⟨#[]⟩] :: blkR pb 128 #[.int .u8 p.k, .int .i64 p.n, .string p.s] :: blkR r4 128 #[.int .u8 0, .int .i64 0, .string ⟨#[]⟩] :: rdR B xb g (p :: l) :: L2) U16 from hU16 ▸ N15.out.drewN m16)
          clear hU16
          refine Mix.wpX_prefix (fuel := 0) (by kernel_rfl) [12, 13] _ _ _ (by kernel_rfl) ?_
          have z60 : U16.cell? ⟨b6, 0, none⟩ = some (.int .u8 0) := Blk.cell (N16.out.each 1 _ rfl) 0
          have f60 := Blk.free (N16.out.each 1 _ rfl) 0
          have z61 : U16.cell? ⟨b6, 1, none⟩ = some (.int .i64 0) := Blk.cell (N16.out.each 1 _ rfl) 1
          have f61 := Blk.free (N16.out.each 1 _ rfl) 1
          have z62 : U16.cell? ⟨b6, 2, none⟩ = some (.string ⟨#[]⟩) := Blk.cell (N16.out.each 1 _ rfl) 2
          have f62 := Blk.free (N16.out.each 1 _ rfl) 2
          have z70 : U16.cell? ⟨b7, 0, none⟩ = some (.int .u8 0) := Blk.cell (N16.out.each 0 _ rfl) 0
          have f70 := Blk.free (N16.out.each 0 _ rfl) 0
          have z71 : U16.cell? ⟨b7, 1, none⟩ = some (.int .i64 0) := Blk.cell (N16.out.each 0 _ rfl) 1
          have f71 := Blk.free (N16.out.each 0 _ rfl) 1
          have z72 : U16.cell? ⟨b7, 2, none⟩ = some (.string ⟨#[]⟩) := Blk.cell (N16.out.each 0 _ rfl) 2
          have f72 := Blk.free (N16.out.each 0 _ rfl) 2
          have ne67 : b6 ≠ b7 := fun e => N16.out.apart 1 0 _ _ rfl rfl (by decide) b6 rfl e
          have ne76 : b7 ≠ b6 := Ne.symm ne67
          have i6 := Blk.lt (N16.out.each 1 _ rfl)
          have i7 := Blk.lt (N16.out.each 0 _ rfl)
          refine Mix.mix_e (by simp only [List.getElem?_toArray, List.getElem?_cons_zero, List.getElem?_cons_succ]; exact rfl) rfl fun X17 hX17 => ?_
          obtain ⟨x17, rfl⟩ := hX17
          go_wp2_with fail
          refine Mix.mix_e (by simp only [List.getElem?_toArray, List.getElem?_cons_zero, List.getElem?_cons_succ]; exact rfl) rfl fun Z17 hZ17 => ?_
          obtain ⟨t17, rfl⟩ := hZ17
          go_wp2_with fail
          intro s17
          refine Mix.wpX_done (by kernel_rfl) ?_
          intro r17
          refine ⟨b6, b7, ?_, ?_⟩
          · simp only [Act.put, List.setIfInBounds_toArray, List.set_cons_succ, List.set_cons_zero, Pc.agg]
          · have t := ((((((((N16.out.drewN x17).put (i := 1) rfl 0 (.int .u8 (Dl.cut1 p n).k)).put (i := 1) rfl 1 (.int .i64 (Dl.cut1 p n).n)).put (i := 1) rfl 2 (.string (Dl.cut1 p n).s)).drewN t17).put (i := 0) rfl 0 (.int .u8 (Dl.cut2 p n).k)).put (i := 0) rfl 1 (.int .i64 (Dl.cut2 p n).n)).put (i := 0) rfl 2 (.string (Dl.cut2 p n).s)).drewN s17 |>.drewN r17
            exact t.perm (List.Perm.swap _ _ _)
      · refine Mix.mix_a (by simp only [List.getElem?_toArray, List.getElem?_cons_zero, List.getElem?_cons_succ]; exact rfl) rfl fun Y18 hY18 => ?_
        obtain ⟨y18, rfl⟩ := hY18
        go_wp2_with fail
        refine ⟨fun j hj => (((Ch.refl (fun _ => False) V0).drewN y18).alloc _).block j (by rcases (HS.out j).1 hj with e | e <;> rw [e] <;> first | exact (show (rdR B xb g (p :: l)).holds _ from MV0.out.each 2 _ rfl).choose_spec.choose_spec.choose_spec.choose_spec.hb.lt | exact Blk.lt (MV0.out.each 0 _ rfl)) id, ?_⟩
        intro m18
        refine Mix.wpX_world fun V18 hV18 => ?_
        obtain ⟨b7, hb7⟩ : ∃ b, b = V0.heap.size := ⟨_, rfl⟩
        have M18 := hid (show Mem B w0 (blkR b7 128 #[.int .u8 0, .int .i64 0, .string ⟨#[]⟩] :: blkR pb 128 #[.int .u8 p.k, .int .i64 p.n, .string p.s] :: blkR r4 128 #[.int .u8 0, .int .i64 0, .string ⟨#[]⟩] :: rdR B xb g (p :: l) :: L2) V18 from by rw [hV18, hb7]; exact ((MV0.out.drewN y18).cons (blkR V0.heap.size 128 #[.int .u8 0, .int .i64 0, .string ⟨#[]⟩]) ((Ch.refl _ _).alloc _) (Blk.new (V0.drewN y18) _ _) (fun k e => Nat.le_of_eq e.symm)).drewN m18)
        rw [← hb7]
        clear hV18 hb7
        refine Mix.wpX_two 6 10 (by kernel_rfl) ?_ ?_
        · refine Mix.mix_a (by simp only [List.getElem?_toArray, List.getElem?_cons_zero, List.getElem?_cons_succ]; exact rfl) rfl fun Y19 hY19 => ?_
          obtain ⟨y19, rfl⟩ := hY19
          go_wp2_with fail
          refine (split_any p n (V18.drewN y19) p0 p1 p2 p3 p4).mono ?_
          rintro e V19 ⟨rfl, hc⟩
          have M19 := hid (show Mem B w0 (blkR b7 128 #[.int .u8 0, .int .i64 0, .string ⟨#[]⟩] :: blkR pb 128 #[.int .u8 p.k, .int .i64 p.n, .string p.s] :: blkR r4 128 #[.int .u8 0, .int .i64 0, .string ⟨#[]⟩] :: rdR B xb g (p :: l) :: L2) V19 from (M18.out.drewN y19).keep hc)
          have C19 := hid (((Ch.refl (fun _ => False) V18).drewN y19).trans hc (fun _ _ h => h))
          clear hc
          simp only [Pc.agg]
          go_wp2_with fail
          refine ⟨fun j hj => (C19.out).block j (by rcases (HS.out j).1 hj with e | e <;> rw [e] <;> first | exact (show (rdR B xb g (p :: l)).holds _ from M18.out.each 3 _ rfl).choose_spec.choose_spec.choose_spec.choose_spec.hb.lt | exact Blk.lt (M18.out.each 1 _ rfl)) id, ?_⟩
          clear C19
          intro m19
          refine Mix.wpX_world fun U19 hU19 => ?_
          have N19 := hid (show Mem B w0 (blkR b7 128 #[.int .u8 0, .int .i64 0, .string ⟨#[]⟩] :: blkR pb 128 #[.int .u8 p.k, .int .i64 p.n, .string p.s] :: blkR r4 128 #[.int .u8 0, .int .i64 0, .string ⟨#[]⟩] :: rdR B xb g (p :: l) :: L2) U19 from hU19 ▸ M19.out.drewN m19)
          clear hU19 M19
          refine Mix.wpX_prefix (fuel := 3) (by kernel_rfl) [7, 8, 9] _ _ _ (by kernel_rfl) ?_
          repeat (first | (refine Mix.mix_p (by simp only [List.getElem?_toArray, List.getElem?_cons_zero, List.getElem?_cons_succ]; exact rfl) rfl rfl ?_; go_big_quiet_step (fail); refine wpQuiet_nil ?_) | (refine Mix.mix_q (by simp only [List.getElem?_toArray, List.getElem?_cons_zero, List.getElem?_cons_succ]; exact rfl) rfl ?_; go_big_quiet_step (fail); refine wpQuiet_nil ?_) | (refine Mix.mix_s (by simp only [List.getElem?_toArray, List.getElem?_cons_zero, List.getElem?_cons_succ]; exact rfl) rfl rfl ?_; go_big_quiet_step (fail); refine wpQuiet_nil ?_))
          intro m20
          refine Mix.wpX_world fun U20 hU20 => ?_
          have N20 := hid (show Mem B w0 (blkR b7 128 #[.int .u8 0, .int .i64 0, .string ⟨#[]⟩] :: blkR pb 128 #[.int .u8 p.k, .int .i64 p.n, .string p.s] :: blkR r4 128 #[.int .u8 0, .int .i64 0, .string ⟨#[]⟩] :: rdR B xb g (p :: l) :: L2) U20 from hU20 ▸ N19.out.drewN m20)
          clear hU20
          refine Mix.wpX_prefix (fuel := 2) (by kernel_rfl) [10] _ _ _ (by kernel_rfl) ?_
          refine Mix.mix_a (by simp only [List.getElem?_toArray, List.getElem?_cons_zero, List.getElem?_cons_succ]; exact rfl) rfl fun Y21 hY21 => ?_
          obtain ⟨y21, rfl⟩ := hY21
          go_wp2_with fail
          refine ⟨fun j hj => (((Ch.refl (fun _ => False) U20).drewN y21).alloc _).block j (by rcases (HS.out j).1 hj with e | e <;> rw [e] <;> first | exact (show (rdR B xb g (p :: l)).holds _ from N20.out.each 3 _ rfl).choose_spec.choose_spec.choose_spec.choose_spec.hb.lt | exact Blk.lt (N20.out.each 1 _ rfl)) id, ?_⟩
          intro m21
          refine Mix.wpX_world fun V21 hV21 => ?_
          obtain ⟨b6, hb6⟩ : ∃ b, b = U20.heap.size := ⟨_, rfl⟩
          have M21 := hid (show Mem B w0 (blkR b6 128 #[.int .u8 0, .int .i64 0, .string ⟨#[]⟩] :: blkR b7 128 #[.int .u8 0, .int .i64 0, .string ⟨#[]⟩] :: blkR pb 128 #[.int .u8 p.k, .int .i64 p.n, .string p.s] :: blkR r4 128 #[.int .u8 0, .int .i64 0, .string ⟨#[]⟩] :: rdR B xb g (p :: l) :: L2) V21 from by rw [hV21, hb6]; exact ((N20.out.drewN y21).cons (blkR U20.heap.size 128 #[.int .u8 0, .int .i64 0, .string ⟨#[]⟩]) ((Ch.refl _ _).alloc _) (Blk.new (U20.drewN y21) _ _) (fun k e => Nat.le_of_eq e.symm)).drewN m21)
          rw [← hb6]
          clear hV21 hb6
          refine Mix.wpX_prefix (fuel := 0) (by kernel_rfl) [12, 13] _ _ _ (by kernel_rfl) ?_
          have z60 : V21.cell? ⟨b6, 0, none⟩ = some (.int .u8 0) := Blk.cell (M21.out.each 0 _ rfl) 0
          have f60 := Blk.free (M21.out.each 0 _ rfl) 0
          have z61 : V21.cell? ⟨b6, 1, none⟩ = some (.int .i64 0) := Blk.cell (M21.out.each 0 _ rfl) 1
          have f61 := Blk.free (M21.out.each 0 _ rfl) 1
          have z62 : V21.cell? ⟨b6, 2, none⟩ = some (.string ⟨#[]⟩) := Blk.cell (M21.out.each 0 _ rfl) 2
          have f62 := Blk.free (M21.out.each 0 _ rfl) 2
          have z70 : V21.cell? ⟨b7, 0, none⟩ = some (.int .u8 0) := Blk.cell (M21.out.each 1 _ rfl) 0
          have f70 := Blk.free (M21.out.each 1 _ rfl) 0
          have z71 : V21.cell? ⟨b7, 1, none⟩ = some (.int .i64 0) := Blk.cell (M21.out.each 1 _ rfl) 1
          have f71 := Blk.free (M21.out.each 1 _ rfl) 1
          have z72 : V21.cell? ⟨b7, 2, none⟩ = some (.string ⟨#[]⟩) := Blk.cell (M21.out.each 1 _ rfl) 2
          have f72 := Blk.free (M21.out.each 1 _ rfl) 2
          have ne67 : b6 ≠ b7 := fun e => M21.out.apart 0 1 _ _ rfl rfl (by decide) b6 rfl e
          have ne76 : b7 ≠ b6 := Ne.symm ne67
          have i6 := Blk.lt (M21.out.each 0 _ rfl)
          have i7 := Blk.lt (M21.out.each 1 _ rfl)
          refine Mix.mix_e (by simp only [List.getElem?_toArray, List.getElem?_cons_zero, List.getElem?_cons_succ]; exact rfl) rfl fun X22 hX22 => ?_
          obtain ⟨x22, rfl⟩ := hX22
          go_wp2_with fail
          refine Mix.mix_e (by simp only [List.getElem?_toArray, List.getElem?_cons_zero, List.getElem?_cons_succ]; exact rfl) rfl fun Z22 hZ22 => ?_
          obtain ⟨t22, rfl⟩ := hZ22
          go_wp2_with fail
          intro s22
          refine Mix.wpX_done (by kernel_rfl) ?_
          intro r22
          refine ⟨b6, b7, ?_, ?_⟩
          · simp only [Act.put, List.setIfInBounds_toArray, List.set_cons_succ, List.set_cons_zero, Pc.agg]
          · have t := ((((((((M21.out.drewN x22).put (i := 0) rfl 0 (.int .u8 (Dl.cut1 p n).k)).put (i := 0) rfl 1 (.int .i64 (Dl.cut1 p n).n)).put (i := 0) rfl 2 (.string (Dl.cut1 p n).s)).drewN t22).put (i := 1) rfl 0 (.int .u8 (Dl.cut2 p n).k)).put (i := 1) rfl 1 (.int .i64 (Dl.cut2 p n).n)).put (i := 1) rfl 2 (.string (Dl.cut2 p n).s)).drewN s22 |>.drewN r22
            exact t
        · refine Mix.mix_a (by simp only [List.getElem?_toArray, List.getElem?_cons_zero, List.getElem?_cons_succ]; exact rfl) rfl fun Y23 hY23 => ?_
          obtain ⟨y23, rfl⟩ := hY23
          go_wp2_with fail
          refine ⟨fun j hj => (((Ch.refl (fun _ => False) V18).drewN y23).alloc _).block j (by rcases (HS.out j).1 hj with e | e <;> rw [e] <;> first | exact (show (rdR B xb g (p :: l)).holds _ from M18.out.each 3 _ rfl).choose_spec.choose_spec.choose_spec.choose_spec.hb.lt | exact Blk.lt (M18.out.each 1 _ rfl)) id, ?_⟩
          intro m23
          refine Mix.wpX_world fun V23 hV23 => ?_
          obtain ⟨b6, hb6⟩ : ∃ b, b = V18.heap.size := ⟨_, rfl⟩
          have M23 := hid (show Mem B w0 (blkR b6 128 #[.int .u8 0, .int .i64 0, .string ⟨#[]⟩] :: blkR b7 128 #[.int .u8 0, .int .i64 0, .string ⟨#[]⟩] :: blkR pb 128 #[.int .u8 p.k, .int .i64 p.n, .string p.s] :: blkR r4 128 #[.int .u8 0, .int .i64 0, .string ⟨#[]⟩] :: rdR B xb g (p :: l) :: L2) V23 from by rw [hV23, hb6]; exact ((M18.out.drewN y23).cons (blkR V18.heap.size 128 #[.int .u8 0, .int .i64 0, .string ⟨#[]⟩]) ((Ch.refl _ _).alloc _) (Blk.new (V18.drewN y23) _ _) (fun k e => Nat.le_of_eq e.symm)).drewN m23)
          rw [← hb6]
          clear hV23 hb6
          refine Mix.wpX_prefix (fuel := 5) (by kernel_rfl) [6] _ _ _ (by kernel_rfl) ?_
          refine Mix.mix_a (by simp only [List.getElem?_toArray, List.getElem?_cons_zero, List.getElem?_cons_succ]; exact rfl) rfl fun Y24 hY24 => ?_
          obtain ⟨y24, rfl⟩ := hY24
          go_wp2_with fail
          refine (split_any p n (V23.drewN y24) p0 p1 p2 p3 p4).mono ?_
          rintro e V24 ⟨rfl, hc⟩
          have M24 := hid (show Mem B w0 (blkR b6 128 #[.int .u8 0, .int .i64 0, .string ⟨#[]⟩] :: blkR b7 128 #[.int .u8 0, .int .i64 0, .string ⟨#[]⟩] :: blkR pb 128 #[.int .u8 p.k, .int .i64 p.n, .string p.s] :: blkR r4 128 #[.int .u8 0, .int .i64 0, .string ⟨#[]⟩] :: rdR B xb g (p :: l) :: L2) V24 from (M23.out.drewN y24).keep hc)
          have C24 := hid (((Ch.refl (fun _ => False) V23).drewN y24).trans hc (fun _ _ h => h))
          clear hc
          simp only [Pc.agg]
          go_wp2_with fail
          refine ⟨fun j hj => (C24.out).block j (by rcases (HS.out j).1 hj with e | e <;> rw [e] <;> first | exact (show (rdR B xb g (p :: l)).holds _ from M23.out.each 4 _ rfl).choose_spec.choose_spec.choose_spec.choose_spec.hb.lt | exact Blk.lt (M23.out.each 2 _ rfl)) id, ?_⟩
          clear C24
          intro m24
          refine Mix.wpX_world fun U24 hU24 => ?_
          have N24 := hid (show Mem B w0 (blkR b6 128 #[.int .u8 0, .int .i64 0, .string ⟨#[]⟩] :: blkR b7 128 #[.int .u8 0, .int .i64 0, .string ⟨#[]⟩] :: blkR pb 128 #[.int .u8 p.k, .int .i64 p.n, .string p.s] :: blkR r4 128 #[.int .u8 0, .int .i64 0, .string ⟨#[]⟩] :: rdR B xb g (p :: l) :: L2) U24 from hU24 ▸ M24.out.drewN m24)
          clear hU24 M24
          refine Mix.wpX_prefix (fuel := 2) (by kernel_rfl) [7, 8, 9] _ _ _ (by kernel_rfl) ?_
          repeat (first | (refine Mix.mix_p (by simp only [List.getElem?_toArray, List.getElem?_cons_zero, List.getElem?_cons_succ]; exact rfl) rfl rfl ?_; go_big_quiet_step (fail); refine wpQuiet_nil ?_) | (refine Mix.mix_q (by simp only [List.getElem?_toArray, List.getElem?_cons_zero, List.getElem?_cons_succ]; exact rfl) rfl ?_; go_big_quiet_step (fail); refine wpQuiet_nil ?_) | (refine Mix.mix_s (by simp only [List.getElem?_toArray, List.getElem?_cons_zero, List.getElem?_cons_succ]; exact rfl) rfl rfl ?_; go_big_quiet_step (fail); refine wpQuiet_nil ?_))
          intro m25
          refine Mix.wpX_world fun U25 hU25 => ?_
          have N25 := hid (show Mem B w0 (blkR b6 128 #[.int .u8 0, .int .i64 0, .string ⟨#[]⟩] :: blkR b7 128 #[.int .u8 0, .int .i64 0, .string ⟨#[]⟩] :: blkR pb 128 #[.int .u8 p.k, .int .i64 p.n, .string p.s] :: blkR r4 128 #[.int .u8 0, .int .i64 0, .string ⟨#[]⟩] :: rdR B xb g (p :: l) :: L2) U25 from hU25 ▸ N24.out.drewN m25)
          clear hU25
          refine Mix.wpX_prefix (fuel := 0) (by kernel_rfl) [12, 13] _ _ _ (by kernel_rfl) ?_
          have z60 : U25.cell? ⟨b6, 0, none⟩ = some (.int .u8 0) := Blk.cell (N25.out.each 0 _ rfl) 0
          have f60 := Blk.free (N25.out.each 0 _ rfl) 0
          have z61 : U25.cell? ⟨b6, 1, none⟩ = some (.int .i64 0) := Blk.cell (N25.out.each 0 _ rfl) 1
          have f61 := Blk.free (N25.out.each 0 _ rfl) 1
          have z62 : U25.cell? ⟨b6, 2, none⟩ = some (.string ⟨#[]⟩) := Blk.cell (N25.out.each 0 _ rfl) 2
          have f62 := Blk.free (N25.out.each 0 _ rfl) 2
          have z70 : U25.cell? ⟨b7, 0, none⟩ = some (.int .u8 0) := Blk.cell (N25.out.each 1 _ rfl) 0
          have f70 := Blk.free (N25.out.each 1 _ rfl) 0
          have z71 : U25.cell? ⟨b7, 1, none⟩ = some (.int .i64 0) := Blk.cell (N25.out.each 1 _ rfl) 1
          have f71 := Blk.free (N25.out.each 1 _ rfl) 1
          have z72 : U25.cell? ⟨b7, 2, none⟩ = some (.string ⟨#[]⟩) := Blk.cell (N25.out.each 1 _ rfl) 2
          have f72 := Blk.free (N25.out.each 1 _ rfl) 2
          have ne67 : b6 ≠ b7 := fun e => N25.out.apart 0 1 _ _ rfl rfl (by decide) b6 rfl e
          have ne76 : b7 ≠ b6 := Ne.symm ne67
          have i6 := Blk.lt (N25.out.each 0 _ rfl)
          have i7 := Blk.lt (N25.out.each 1 _ rfl)
          refine Mix.mix_e (by simp only [List.getElem?_toArray, List.getElem?_cons_zero, List.getElem?_cons_succ]; exact rfl) rfl fun X26 hX26 => ?_
          obtain ⟨x26, rfl⟩ := hX26
          go_wp2_with fail
          refine Mix.mix_e (by simp only [List.getElem?_toArray, List.getElem?_cons_zero, List.getElem?_cons_succ]; exact rfl) rfl fun Z26 hZ26 => ?_
          obtain ⟨t26, rfl⟩ := hZ26
          go_wp2_with fail
          intro s26
          refine Mix.wpX_done (by kernel_rfl) ?_
          intro r26
          refine ⟨b6, b7, ?_, ?_⟩
          · simp only [Act.put, List.setIfInBounds_toArray, List.set_cons_succ, List.set_cons_zero, Pc.agg]
          · have t := ((((((((N25.out.drewN x26).put (i := 0) rfl 0 (.int .u8 (Dl.cut1 p n).k)).put (i := 0) rfl 1 (.int .i64 (Dl.cut1 p n).n)).put (i := 0) rfl 2 (.string (Dl.cut1 p n).s)).drewN t26).put (i := 1) rfl 0 (.int .u8 (Dl.cut2 p n).k)).put (i := 1) rfl 1 (.int .i64 (Dl.cut2 p n).n)).put (i := 1) rfl 2 (.string (Dl.cut2 p n).s)).drewN s26 |>.drewN r26
            exact t
    · clear hS0 hS1 HS xs1 xs2 k0 k1 k2 lxb lpb
      rintro a' W6 ⟨b6, b7, rfl, hM⟩
      simp only [Act.put, List.setIfInBounds_toArray, List.set_cons_succ, List.set_cons_zero]
      have M6 := hid hM
      clear hM
      have RD := hid (show (rdR B xb g (p :: l)).holds W6 from M6.out.each 4 _ rfl)
      obtain ⟨A0, c0, off, cs, hx⟩ := RD.out
      have hA := hx.ha (by simp)
      subst hA
      obtain ⟨m, hm⟩ : ∃ m, m = l.length := ⟨_, rfl⟩
      have xs0 : W6.cell? ⟨xb, 0, none⟩ = some (.slice (some ⟨g, off, none⟩) (m + 1) c0) := by rw [hm]; exact hx.hb.cell 0
      have hcs : ∀ j v, p.cells[j]? = some v → cs[off + j]? = some v := fun j v hv => hx.hl j v (by
        have := pcCells_get (p :: l) 0 p rfl j v hv
        simpa using this)
      have h0 := hcs 0 _ rfl
      have h1 := hcs 1 _ rfl
      have h2 := hcs 2 _ rfl
      have g0 : W6.cell? ⟨g, off, none⟩ = some (.int .u8 p.k) := (hx.hg.cell off).trans h0
      have g1 : W6.cell? ⟨g, off + 1, none⟩ = some (.int .i64 p.n) := (hx.hg.cell (off + 1)).trans h1
      have g2 : W6.cell? ⟨g, off + 2, none⟩ = some (.string p.s) := (hx.hg.cell (off + 2)).trans h2
      have e0 := hx.hg.free off
      have e1 := hx.hg.free (off + 1)
      have e2 := hx.hg.free (off + 2)
      have lxb := hx.hb.lt
      have lg := hx.hg.lt
      have HX := hid hx
      have HNG := hid (show xb ≠ g from Blk.ne hx.hb hx.hg (by decide))
      have HM := hid hm
      have H0 := hid h0
      have H2 := hid h2
      have HCS := hid hcs
      clear hx hm h0 h1 h2 hcs
      have v0 : W6.cell? ⟨b7, 0, none⟩ = some (.int .u8 (Dl.cut2 p n).k) := Blk.cell (M6.out.each 1 _ rfl) 0
      have v1 : W6.cell? ⟨b7, 1, none⟩ = some (.int .i64 (Dl.cut2 p n).n) := Blk.cell (M6.out.each 1 _ rfl) 1
      have v2 : W6.cell? ⟨b7, 2, none⟩ = some (.string (Dl.cut2 p n).s) := Blk.cell (M6.out.each 1 _ rfl) 2
      have lb7 := Blk.lt (M6.out.each 1 _ rfl)
      go_wp2_with fail
      refine Mix.wp_region_mix (fun _ => True) (fun i => ([0, 0, 0, 0, 0, 0, 2] : List Nat).getD i 0) [0, 1, 2, 3, 4, 5, 6] (by kernel_rfl) (by kernel_rfl) ?_
      repeat (first | (refine Mix.mix_q (by simp only [List.getElem?_toArray, List.getElem?_cons_zero, List.getElem?_cons_succ]; exact rfl) rfl ?_; go_big_quiet_step (fail); refine wpQuiet_nil ?_) | (refine Mix.mix_p (by simp only [List.getElem?_toArray, List.getElem?_cons_zero, List.getElem?_cons_succ]; exact rfl) rfl rfl ?_; go_big_quiet_step (fail); refine wpQuiet_nil ?_))
      refine Mix.mix_e (by simp only [List.getElem?_toArray, List.getElem?_cons_zero, List.getElem?_cons_succ]; exact rfl) rfl fun X7 hX7 => ?_
      obtain ⟨k7, rfl⟩ := hX7
      go_wp2_with fail
      intro k8
      refine at_world fun W8 hW8 => ?_
      have M8 := hid (show Mem B w0 (blkR b6 128 (Dl.cut1 p n).cells.toArray :: blkR b7 128 (Dl.cut2 p n).cells.toArray :: blkR pb 128 #[.int .u8 p.k, .int .i64 p.n, .string p.s] :: blkR r4 128 #[.int .u8 0, .int .i64 0, .string ⟨#[]⟩] :: rdR B xb g (Dl.cut2 p n :: l) :: L2) W8 from by
        rw [hW8]
        refine Mem.drewN ?_ k8
        refine (M6.out.drewN k7).upd (rdR B xb g (Dl.cut2 p n :: l)) (i := 4) rfl ((((Ch.refl (fun k => k = g) _).set (fun _ => rfl) _).set (fun _ => rfl) _).set (fun _ => rfl) _) (fun k _ e => .inr e) ⟨_, c0, off, _, ((HX.out.hb.far HNG.out _).far HNG.out _).far HNG.out _, ((HX.out.hg.put off (.int .u8 (Dl.cut2 p n).k)).put (off + 1) (.int .i64 (Dl.cut2 p n).n)).put (off + 2) (.string (Dl.cut2 p n).s), by simpa using HX.out.hc, fun _ => rfl, fun j u hu => ?_, HX.out.b1, HX.out.b2⟩ (fun k e => .inl e)
        have z2 := (Array.getElem?_eq_some_iff.1 H2.out).1
        rw [show pcCells (Dl.cut2 p n :: l) = (Dl.cut2 p n).cells ++ pcCells l from rfl] at hu
        simp only [Array.getElem?_setIfInBounds, Array.size_setIfInBounds]
        match j, hu with
        | 0, hu => simpa [Pc.cells, show off < cs.size by omega] using hu
        | 1, hu => simpa [Pc.cells, show off + 1 < cs.size by omega] using hu
        | 2, hu => simpa [Pc.cells, show off + 2 < cs.size by omega] using hu
        | j + 3, hu =>
          rw [if_neg (by omega), if_neg (by omega), if_neg (by omega)]
          refine HX.out.hl (j + 3) u ?_
          rw [show pcCells (p :: l) = p.cells ++ pcCells l from rfl, List.getElem?_append_right (by simp [Pc.cells])]
          rw [List.getElem?_append_right (by simp [Pc.cells])] at hu
          exact hu)
      clear hW8 g0 g1 g2 e0 e1 e2 lxb lg v0 v1 v2 lb7 xs0
      have u0 : W8.cell? ⟨b6, 0, none⟩ = some (.int .u8 (Dl.cut1 p n).k) := Blk.cell (M8.out.each 0 _ rfl) 0
      have u1 : W8.cell? ⟨b6, 1, none⟩ = some (.int .i64 (Dl.cut1 p n).n) := Blk.cell (M8.out.each 0 _ rfl) 1
      have u2 : W8.cell? ⟨b6, 2, none⟩ = some (.string (Dl.cut1 p n).s) := Blk.cell (M8.out.each 0 _ rfl) 2
      have q0 : W8.cell? ⟨r4, 0, none⟩ = some (.int .u8 0) := Blk.cell (M8.out.each 3 _ rfl) 0
      have qf0 := Blk.free (M8.out.each 3 _ rfl) 0
      have q1 : W8.cell? ⟨r4, 1, none⟩ = some (.int .i64 0) := Blk.cell (M8.out.each 3 _ rfl) 1
      have qf1 := Blk.free (M8.out.each 3 _ rfl) 1
      have q2 : W8.cell? ⟨r4, 2, none⟩ = some (.string ⟨#[]⟩) := Blk.cell (M8.out.each 3 _ rfl) 2
      have qf2 := Blk.free (M8.out.each 3 _ rfl) 2
      have l6 := Blk.lt (M8.out.each 0 _ rfl)
      have l4 := Blk.lt (M8.out.each 3 _ rfl)
      have n64 : b6 ≠ r4 := fun e => M8.out.apart 0 3 _ _ rfl rfl (by decide) b6 rfl e
      have n46 : r4 ≠ b6 := Ne.symm n64
      have M9 := hid (((M8.out.put (i := 3) rfl 0 (.int .u8 (Dl.cut1 p n).k)).put (i := 3) rfl 1 (.int .i64 (Dl.cut1 p n).n)).put (i := 3) rfl 2 (.string (Dl.cut1 p n).s))
      go_wp2_with fail
      refine bodyPost_ret (v := .agg #[.int .u8 (Dl.cut1 p n).k, .int .i64 (Dl.cut1 p n).n, .string (Dl.cut1 p n).s]) (by simp [results, Tryz.results142, go_sem, q0, q1, q2, qf0, qf1, qf2]) rfl ⟨by (rw [HPART.out.1]; rfl), ?_⟩
      rw [HPART.out.2]
      exact Mem.drop 4 M9.out
  · have d1 : decide ((n : Int) < lp) = false := decide_eq_false hlt
    have HPART := hid (show Dl.part p n = p ∧ Dl.left p l n = l from by
      unfold Dl.part Dl.left
      rw [← hlp, if_neg hlt, if_neg hlt]
      exact ⟨rfl, rfl⟩)
    clear hlp
    go_wp2_with fail
    repeat (first | (refine Mix.mix_q (by simp only [List.getElem?_toArray, List.getElem?_cons_zero, List.getElem?_cons_succ]; exact rfl) rfl ?_; go_big_quiet_step (fail); refine wpQuiet_nil ?_) | (refine Mix.mix_p (by simp only [List.getElem?_toArray, List.getElem?_cons_zero, List.getElem?_cons_succ]; exact rfl) rfl rfl ?_; go_big_quiet_step (fail); refine wpQuiet_nil ?_))
    intro y1
    refine at_world fun W5 hW5 => ?_
    have M5 := hid (show Mem B w0 (blkR pb 128 #[.int .u8 p.k, .int .i64 p.n, .string p.s] :: blkR r4 128 #[.int .u8 0, .int .i64 0, .string ⟨#[]⟩] :: rdR B xb g (p :: l) :: L2) W5 from hW5 ▸ M4.out.drewN y1)
    clear hW5
    have M6 := hid (Mem.perm (L' := (rdR B xb g (p :: l) :: blkR pb 128 #[.int .u8 p.k, .int .i64 p.n, .string p.s] :: blkR r4 128 #[.int .u8 0, .int .i64 0, .string ⟨#[]⟩] :: L2)) M5.out (by
      refine (List.Perm.cons _ (List.Perm.swap _ _ _)).trans (List.Perm.swap _ _ _)))
    go_wp2_with fail
    refine (whole_any M6.out (by omega)).mono ?_
    rintro e w7 ⟨rfl, hM⟩
    have M7 := hid hM
    clear hM
    simp only [Pc.agg]
    have q0 : w7.cell? ⟨r4, 0, none⟩ = some (.int .u8 0) := Blk.cell (M7.out.each 2 _ rfl) 0
    have qf0 := Blk.free (M7.out.each 2 _ rfl) 0
    have q1 : w7.cell? ⟨r4, 1, none⟩ = some (.int .i64 0) := Blk.cell (M7.out.each 2 _ rfl) 1
    have qf1 := Blk.free (M7.out.each 2 _ rfl) 1
    have q2 : w7.cell? ⟨r4, 2, none⟩ = some (.string ⟨#[]⟩) := Blk.cell (M7.out.each 2 _ rfl) 2
    have qf2 := Blk.free (M7.out.each 2 _ rfl) 2
    have l4 := Blk.lt (M7.out.each 2 _ rfl)
    have M9 := hid (((M7.out.put (i := 2) rfl 0 (.int .u8 p.k)).put (i := 2) rfl 1 (.int .i64 p.n)).put (i := 2) rfl 2 (.string p.s))
    go_wp2_with fail
    refine bodyPost_ret (v := .agg #[.int .u8 p.k, .int .i64 p.n, .string p.s]) (by simp [results, Tryz.results142, go_sem, q0, q1, q2, qf0, qf1, qf2]) rfl ⟨by (rw [HPART.out.1]; rfl), ?_⟩
    rw [HPART.out.2]
    exact Mem.drop 2 (Mem.perm M9.out ((List.Perm.swap _ _ _).trans (List.Perm.cons _ (List.Perm.swap _ _ _))))
end
end Go.Proofs.YtefpabicgefciaaGreat
