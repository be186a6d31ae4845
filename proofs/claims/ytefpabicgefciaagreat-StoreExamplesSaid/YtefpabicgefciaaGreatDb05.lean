/- Texts XFormB, XDeltaC, XRepl, XJoin for XChE, by trim.py. -/
import Derived.Test.YtefpabicgefciaaGreatDb04
import Derived.Test.YtefpabicgefciaaGreatDb03
import Derived.Lib.AppendZerosOnto
import Derived.IntWalk
namespace Go.Proofs.YtefpabicgefciaaGreat
open Go.RowKit
set_option linter.unusedVariables false
set_option linter.unusedSimpArgs false
set_option linter.unusedSectionVars false
/-- A cell of an own row is set. -/
theorem own_put {w : World} {B e size g n c : Nat} {xs : List Value} (h : w.ownsRow B e size (.slice (some ⟨g, 0, none⟩) n c) n xs) {j : Nat} (hj : j < xs.length) (u : Value) : (w.setCell ⟨g, j, none⟩ u).ownsRow B e size (.slice (some ⟨g, 0, none⟩) n c) n (xs.set j u) := by
  refine ⟨by rw [List.length_set]; exact h.1, ?_⟩
  rcases h.2 with ⟨hv, _⟩ | ⟨g', cap, cur, hv, hB, hg, hnc, hcm, hcs, htk⟩
  · cases hv
  · injection hv with h1 h2 h3
    injection h1 with h1
    injection h1 with h1
    subst h1 h3
    refine .inr ⟨g, c, cur.setIfInBounds j u, rfl, hB, Blk.put (w := w) (t := e) (cs := cur) hg j u, hnc, hcm, by rw [Array.size_setIfInBounds]; exact hcs, ?_⟩
    rw [Array.toList_setIfInBounds, ← htk]
    rw [List.take_set]
theorem own_at {w : World} {B e size n : Nat} {v : Value} {xs : List Value} (h : w.ownsRow B e size v n xs) (hn : 0 < n) : ∃ g c, v = .slice (some ⟨g, 0, none⟩) n c ∧ n ≤ c ∧ ∀ j u, xs[j]? = some u → w.cell? ⟨g, j, none⟩ = some u ∧ w.frozen? ⟨g, j, none⟩ = false := by
  rcases h.2 with ⟨_, h0⟩ | ⟨g, cap, cur, rfl, hB, hg, hnc, _⟩
  · omega
  · refine ⟨g, cap, rfl, hnc, fun j u hu => ⟨?_, Blk.free (t := e) (cs := cur) hg j⟩⟩
    have := h.cells (g := g) rfl j u hu
    rwa [addr_add0] at this
theorem pcCells_set (l : List Pc) (x : Pc) (m : Int) : (pcCells (l ++ [x])).set (l.length * 3 + 1) (.int .i64 m) = pcCells (l ++ [⟨x.k, m, x.s⟩]) := by
  rw [pcCells_app, pcCells_app, List.set_append_right _ _ (by rw [pcCells_length]; omega), pcCells_length, show l.length * 3 + 1 - l.length * 3 = 1 by omega]
  rfl
namespace Dl
theorem oul_gap (t : List UInt8) (g : Int) : oul (gap t g) = t.length := by
  unfold gap
  rw [oul_app]
  by_cases h1 : t = [] <;> by_cases h2 : 0 < g <;> simp [h1, h2, oul, oun, insP, delP, mkS, ByteArray.size, nos]
theorem run_bd {xs : List Pc} (hok : OkL xs) {M : Int} (hi : inl xs ≤ M) (ho : oul xs ≤ M) (k : Nat) :
    OkL (fend (frun (xs.take k) fzero)) ∧ 0 ≤ (frun (xs.take k) fzero).g ∧ (frun (xs.take k) fzero).g ≤ M ∧ ((frun (xs.take k) fzero).t.length : Int) ≤ M ∧ inl (fend (frun (xs.take k) fzero)) ≤ M ∧ ((fend (frun (xs.take k) fzero)).length : Int) ≤ 2 * M ∧ ((frun (xs.take k) fzero).out.length : Int) ≤ 2 * M ∧
      inl (xs.take k) ≤ M := by
  have hz : FOk fzero := ⟨fun _ h => by simp [fzero] at h, Int.le_refl 0⟩
  have hk : OkL (xs.take k) := fun y hy => hok y (List.mem_of_mem_take hy)
  have hd : OkL (xs.drop k) := fun y hy => hok y (List.mem_of_mem_drop hy)
  obtain ⟨r1, r2, r3⟩ := run_ok (xs.take k) fzero hz hk
  have e1 : inl (fend fzero) = 0 := by simp [fend, fzero, gap_nil, inl]
  have e2 : atoms 0 (fend fzero) = [] := by simp [fend, fzero, gap_nil, atoms]
  rw [e1] at r2 r3
  rw [e2] at r3
  obtain ⟨st, hst⟩ : ∃ st, st = frun (xs.take k) fzero := ⟨_, rfl⟩
  rw [← hst] at r1 r2 r3 ⊢
  have fo := fend_ok r1
  have q1 : oul (fend st) = oul (xs.take k) := by rw [oul_atoms fo r3, List.nil_append, atoms_len 0 hk]
  have p1 := inl_app (xs.take k) (xs.drop k)
  have p2 := oul_app (xs.take k) (xs.drop k)
  rw [List.take_append_drop] at p1 p2
  have n1 := inl_nn hd
  have n2 := oul_nn hd
  have n3 := inl_nn hk
  have n4 := oul_nn hk
  have g0 := r1.g
  have f1 : inl (fend st) = inl st.out + st.g := by rw [fend, inl_app, inl_gap _ _ g0]
  have f2 : oul (fend st) = oul st.out + st.t.length := by rw [fend, oul_app, oul_gap]
  have o1 := inl_nn r1.o
  have o2 := oul_nn r1.o
  have l1 := len_le fo
  have l2 := len_le r1.o
  exact ⟨fo, g0, by omega, by omega, by omega, by omega, by omega, by omega⟩
end Dl
set_option maxRecDepth 100000 in
set_option maxHeartbeats 4000000 in
theorem form_any (a : Option Addr) (n c : Nat) (xs : List Pc) (w : World) (ha : InPc w a n xs) (hok : Dl.OkL xs) (h1 : Dl.inl xs ≤ 2000000) (h2 : Dl.oul xs ≤ 2000000) (hn : n ≤ 5000000) : Calls Tryz.prog 166 #[.slice a n c] w fun e w' => OwnPc w w' (Dl.form xs) e := by
  have hl := ha.1
  obtain ⟨i0, hi, hz0, hz1, hz2⟩ := info_parts infoPc
  have HA := hid ha
  have HBD := hid (fun k => Dl.run_bd hok h1 h2 k)
  have HOK := hid hok
  clear ha hok h1 h2
  go_enter Tryz.func166, Tryz.ntmps166
  go_wp2_with fail
  refine at_world fun W1 hW1 => ?_
  obtain ⟨ob, hob⟩ : ∃ x, x = w.heap.size := ⟨_, rfl⟩
  obtain ⟨bb, hbb⟩ : ∃ x, x = w.heap.size + 1 := ⟨_, rfl⟩
  obtain ⟨gb, hgb⟩ : ∃ x, x = w.heap.size + 1 + 1 := ⟨_, rfl⟩
  have M1 := hid (show Mem w.heap.size w (fmL w.heap.size bb false (.slice none 0 0) [] ob (.slice none 0 0) gb 0 []) W1 from by
    have m0 : Mem w.heap.size w [] w := Mem.nil (Nat.le_refl _) (Below.refl _ w)
    have m1 := m0.add (blkR w.heap.size 77 #[.slice none 0 0]) ((Ch.refl (fun _ => False) w).alloc (.cells #[.slice none 0 0] 77)) (Blk.new w _ _) (fun k e => Nat.le_of_eq e.symm)
    have m2 := m1.add (bldR w.heap.size (w.alloc (.cells #[.slice none 0 0] 77)).heap.size false (.slice none 0 0) []) ((Ch.refl (fun _ => False) _).alloc (.cells #[.pointer none, .slice none 0 0] 279)) (BldM.new _ (by simp)) (fun k e => by rcases e with e | e; exact Nat.le_of_eq e.symm; simp [Value.ownBlock] at e)
    have m3 := m2.add (blkR ((w.alloc (.cells #[.slice none 0 0] 77)).alloc (.cells #[.pointer none, .slice none 0 0] 279)).heap.size 3 #[.int .i64 0]) ((Ch.refl (fun _ => False) _).alloc (.cells #[.int .i64 0] 3)) (Blk.new _ _ _) (fun k e => Nat.le_of_eq e.symm)
    have m4 := m3.addK (rowR w.heap.size 128 3 0 (.slice none 0 0) []) (World.ownsRow_nil _ _ _ _) (fun i s hi k hk e => by simp [rowR, Value.ownBlock] at e) (fun k e => by simp [rowR, Value.ownBlock] at e)
    rw [hW1, hob, hbb, hgb]
    refine m4.perm ?_
    simp only [List.nil_append, List.cons_append, fmL, List.length_nil, World.alloc, Array.size_push]
    exact List.Perm.swap _ _ _)
  rw [← hgb, ← hbb, ← hob]
  clear hW1 hob hbb hgb
  go_wp2_with fail
  go_loopw [13] (fun i W => ∃ (k : Nat) (us : Bool) (bv ov : Value), k ≤ n ∧ i = .int .i64 (k : Int) ∧ Mem w.heap.size w (fmL w.heap.size bb us bv (Dl.frun (xs.take k) Dl.fzero).t ob ov gb (Dl.frun (xs.take k) Dl.fzero).g (Dl.frun (xs.take k) Dl.fzero).out) W) (fun i _ => n - (intOf i).toNat)
  case atStart => exact ⟨0, _, _, _, Nat.zero_le _, rfl, M1.out⟩
  case round =>
    obtain ⟨k, us, bv, ov, hk, rfl, hM⟩ := hrel
    obtain ⟨b1, g0, g1, b3, b5, b6, b7, b8⟩ := HBD.out k
    by_cases hlt : k < n
    · have d3 : decide ((k : Int) < (n : Int)) = true := decide_eq_true (by omega)
      have d4 : decide (k < n) = true := decide_eq_true hlt
      obtain ⟨p, hp⟩ : ∃ p, xs[k]? = some p := ⟨_, List.getElem?_eq_getElem (by omega)⟩
      have HST0 := hid (show Dl.frun (xs.take (k + 1)) Dl.fzero = Dl.fstep (Dl.frun (xs.take k) Dl.fzero) p from by
        rw [List.take_add_one, hp, Option.toList_some, Dl.frun_app]; rfl)
      have hpok := HOK.out p (List.mem_of_getElem? hp)
      obtain ⟨st, hst⟩ : ∃ st, st = (Dl.frun (xs.take k) Dl.fzero) := ⟨_, rfl⟩
      rw [← hst] at hM b1 g0 g1 b3 b5 b6 b7 HST0
      have HST := HST0
      have HB1 := hid b1
      have pn0 := hpok.inn0
      have pn1 : p.n ≤ 2000000 := by
        have t := (HBD.out (k + 1)).2.2.2.2.2.2.2
        have hk1 : Dl.OkL (xs.take (k + 1)) := fun y hy => HOK.out y (List.mem_of_mem_take hy)
        have := (Dl.mem_le hk1 (x := p) (by rw [List.take_add_one, hp]; simp)).1
        unfold Dl.inn at this
        omega
      unfold Dl.inn at pn0
      obtain ⟨b, off, hab, hb, hcell⟩ := (HA.out.keep (hM.ch rfl) (fun _ _ _ _ => id)).2 (by omega)
      subst hab
      have c0 : wr.cell? ⟨b, off + k * 3, none⟩ = some (.int .u8 p.k) := hcell k 0 p _ hp rfl
      have c1 : wr.cell? ⟨b, off + k * 3 + 1, none⟩ = some (.int .i64 p.n) := hcell k 1 p _ hp rfl
      have c2 : wr.cell? ⟨b, off + k * 3 + 2, none⟩ = some (.string p.s) := hcell k 2 p _ hp rfl
      have HM0 := hid hM
      have HPOK := hid hpok
      clear hM hcell hp b1 hst hpok HST0
      rcases HPOK.out.kind with hpk | hpk | hpk
      · have bk2 : (p.k == 2) = false := by simp [hpk]
        have bk3 : (p.k == 3) = false := by simp [hpk]
        have PRE := hid (show Dl.retP p.n = p from by
          rcases HPOK.out with ⟨_, _, h⟩ | ⟨h, _⟩
          · obtain ⟨pk, pn, ps⟩ := p
            simp only at hpk h
            rw [show ps = Dl.nos from by apply ByteArray.ext; exact Array.eq_empty_of_size_eq_zero h, hpk]
            rfl
          · omega)
        have HSTE := hid (show Dl.fstep st p = Dl.fret st p.n from by simp [Dl.fstep, hpk])
        clear hpk
        go_wp2_with fail
        refine calls_world fun wp hwp => ?_
        have MP := hid (show Mem w.heap.size w (fmL w.heap.size bb us bv st.t ob ov gb st.g st.out ++ [blkR wr.heap.size 128 #[.int .u8 p.k, .int .i64 p.n, .string p.s]]) wp from by rw [hwp]; exact HM0.out.add _ ((Ch.refl _ _).alloc _) (Blk.new _ _ _) (fun k e => Nat.le_of_eq e.symm))
        clear hwp
        clear c0 c1 c2
        refine (flush_any w.heap.size bb us bv st.t ob ov gb st.g st.out [blkR wr.heap.size 128 #[.int .u8 p.k, .int .i64 p.n, .string p.s]] w wp MP.out g0 (by omega) (by omega)).mono ?_
        rintro e w2 ⟨rfl, us2, bv2, ov2, hM2⟩
        have HFE := hid (show st.out ++ Dl.gap st.t st.g = Dl.fend st from rfl)
        rw [HFE.out] at hM2
        obtain ⟨fo, hfo⟩ : ∃ x, x = Dl.fend st := ⟨_, rfl⟩
        have hm4 : (fo.length : Int) ≤ 4000000 := by rw [hfo]; exact b6
        have hok2 : Dl.OkL fo := by rw [hfo]; exact HB1.out
        have hin2 : Dl.inl fo ≤ 2000000 := by rw [hfo]; exact b5
        rw [← hfo] at hM2
        have HFO := hid hfo
        clear hfo
        obtain ⟨oa2, oc2, hov2, _⟩ := own_slice (show w2.ownsRow w.heap.size 128 3 ov2 fo.length (pcCells fo) from hM2.each 3 _ rfl)
        subst hov2
        have M2 := hid hM2
        clear hM2
        obtain ⟨m, hm⟩ : ∃ m, m = fo.length := ⟨_, rfl⟩
        unfold fmL at M2
        rw [← hm] at M2 hm4
        have o0 : w2.cell? ⟨ob, 0, none⟩ = some (.slice oa2 m oc2) := Blk.cell (M2.out.each 1 _ rfl) 0
        have lo := Blk.lt (M2.out.each 1 _ rfl)
        have c0 : w2.cell? ⟨wr.heap.size, 0, none⟩ = some (.int .u8 p.k) := Blk.cell (M2.out.each 4 _ rfl) 0
        have c1 : w2.cell? ⟨wr.heap.size, 1, none⟩ = some (.int .i64 p.n) := Blk.cell (M2.out.each 4 _ rfl) 1
        have c2 : w2.cell? ⟨wr.heap.size, 2, none⟩ = some (.string p.s) := Blk.cell (M2.out.each 4 _ rfl) 2
        by_cases hm0 : m = 0
        · have dm : decide ((0 : Int) < (m : Int)) = false := decide_eq_false (by omega)
          have dm2 : decide (0 < m) = false := decide_eq_false (by omega)
          have HM := hid hm
          have HKE := hid (show Dl.fret st p.n = ⟨fo ++ [p], [], 0⟩ from by
            have e0 : fo = [] := List.eq_nil_of_length_eq_zero (by omega)
            show (⟨Dl.keep (Dl.fend st) p.n, [], 0⟩ : Dl.Fs) = _
            rw [← HFO.out, e0]
            show (⟨[Dl.retP p.n], [], 0⟩ : Dl.Fs) = _
            rw [PRE.out]
            rfl)
          clear hm hm0
          go_wp2_with (at_builtin; refine wpList_app _ rfl (.tmp 45) (.tmp 47) 77 rfl w.heap.size 128 i0 _ 3 32 Tryz.underlying77 hi hz0 hz1 hz2 rfl (by decide) _ _ _ rfl ((M2.out.alloc (.cells p.cells.toArray 128)).each 3 _ rfl) ⟨w2.heap.size, 0, none⟩ 1 1 p.cells rfl rfl ?cA1 ?cA2 (by decide) ?cA3 ?cA4 ?cA5 ?cA6)
          case cA1 => intro j u hu; rw [addr_add0]; exact (Blk.cell (Blk.new w2 128 p.cells.toArray) j).trans (by simpa using hu)
          case cA2 => exact fun u hu => pc_one [p] u (by simpa [pcCells] using hu)
          case cA3 => unfold maxLen; omega
          case cA4 => omega
          case cA5 => exact Nat.le_trans M2.out.bz (by simp)
          case cA6 =>
            intro v' w3 hown' hgrow hfresh
            obtain ⟨Ag, cg, hgv, hcg⟩ := own_slice hown'
            subst hgv
            have M3 := hid ((M2.out.alloc (.cells p.cells.toArray 128)).app (i := 3) rfl hown' hgrow hfresh)
            have o0 : w3.cell? ⟨ob, 0, none⟩ = some (.slice oa2 m oc2) := Blk.cell (M3.out.each 1 _ rfl) 0
            have fo := Blk.free (M3.out.each 1 _ rfl) 0
            clear hown' hgrow hfresh
            have M4 := hid (M3.out.put (i := 1) rfl 0 (.slice Ag (m + 1) cg))
            go_wp2_with fail
            go_roundw
            case rel =>
              refine ⟨k + 1, us2, bv2, .slice Ag (m + 1) cg, hlt, by go_num, ?_⟩
              rw [HST.out, HSTE.out, HKE.out]
              have t := Mem.take 4 M4.out
              simp only [fmL, List.length_append, List.length_cons, List.length_nil, pcCells_app, pcCells_one, HM.out] at t ⊢
              exact t
            case measure => simp [intOf]; omega

        · have hmp : 0 < m := by omega
          have dm : decide ((0 : Int) < (m : Int)) = true := decide_eq_true (by omega)
          have dm2 : decide (0 < m) = true := decide_eq_true hmp
          obtain ⟨q, fi, hfi⟩ : ∃ q fi, fo = fi ++ [q] := by
            have hne : fo ≠ [] := by intro e; rw [e] at hm; simp at hm; omega
            exact ⟨_, _, (List.dropLast_concat_getLast hne).symm⟩
          have hmi : m = fi.length + 1 := by rw [hm, hfi]; simp
          obtain ⟨gA, cA, hsl, hcA, hat⟩ := own_at (show w2.ownsRow w.heap.size 128 3 (.slice oa2 m oc2) m (pcCells fo) from M2.out.each 3 _ rfl) hmp
          injection hsl with hs1 _ hs3
          subst hs1 hs3
          have hq : ∀ j v, q.cells[j]? = some v → w2.cell? ⟨gA, fi.length * 3 + j, none⟩ = some v ∧ w2.frozen? ⟨gA, fi.length * 3 + j, none⟩ = false := fun j v hv => hat _ v (by
            rw [hfi]
            exact pcCells_get (fi ++ [q]) fi.length q (by simp) j v hv)
          have e3 : fi.length = m - 1 := by omega
          rw [e3] at hq
          have q0 : w2.cell? ⟨gA, (m - 1) * 3, none⟩ = some (.int .u8 q.k) := (hq 0 _ rfl).1
          have q1 : w2.cell? ⟨gA, (m - 1) * 3 + 1, none⟩ = some (.int .i64 q.n) := (hq 1 _ rfl).1
          have fq1 : w2.frozen? ⟨gA, (m - 1) * 3 + 1, none⟩ = false := (hq 1 _ rfl).2
          have hqok : Dl.Ok q := hok2 q (by rw [hfi]; simp)
          have hqn0 := hqok.inn0
          have hqn1 := (Dl.mem_le hok2 (show q ∈ fo by rw [hfi]; simp)).1
          unfold Dl.inn at hqn0 hqn1
          have HFI := hid hfi
          have lA := World.block_lt_of_cell? _ _ q0
          have HM := hid hm
          have HE3 := hid e3
          clear hat hq hfi hqok hok2 hm e3
          by_cases hqk : q.k = 1
          · have bq : (q.k == 1) = true := by simp [hqk]
            have HQK := hid hqk
            clear hqk
            have f9 : decide (m - 1 < m) = true := decide_eq_true (by omega)
            have g9 : decide ((m : Int) - 1 < (m : Int)) = true := decide_eq_true (by omega)
            have HMI := hid hmi
            clear hmi
            go_wp2_with fail
            refine Mix.wp_region_mix (fun _ => True) (fun i => ([0, 0, 0, 0, 0, 0, 0, 0, 0, 0, 0, 2] : List Nat).getD i 0) [0, 1, 2, 3, 4, 5, 6, 7, 8, 9, 10, 11] (by kernel_rfl) (by kernel_rfl) ?_
            repeat (first | (refine Mix.mix_q (by simp only [List.getElem?_toArray, List.getElem?_cons_zero, List.getElem?_cons_succ]; exact rfl) rfl ?_; go_big_quiet_step (fail); refine wpQuiet_nil ?_) | (refine Mix.mix_p (by simp only [List.getElem?_toArray, List.getElem?_cons_zero, List.getElem?_cons_succ]; exact rfl) rfl rfl ?_; go_big_quiet_step (fail); refine wpQuiet_nil ?_))
            refine Mix.mix_e (by simp only [List.getElem?_toArray, List.getElem?_cons_zero, List.getElem?_cons_succ]; exact rfl) rfl fun X1 hX1 => ?_
            obtain ⟨k1, rfl⟩ := hX1
            go_wp2_with fail
            intro k2
            refine at_world fun W5 hW5 => ?_
            have M5 := hid (show Mem w.heap.size w ((fmL w.heap.size bb us2 bv2 [] ob (.slice (some ⟨gA, 0, none⟩) m oc2) gb 0 (fi ++ [⟨q.k, q.n + p.n, q.s⟩]))) W5 from by
              rw [hW5]
              have t0 := (M2.out.drewN k1)
              have tr := own_put (show (w2.drewN k1).ownsRow w.heap.size 128 3 (.slice (some ⟨gA, 0, none⟩) m oc2) m (pcCells fo) from t0.each 3 _ rfl) (j := (m - 1) * 3 + 1) (by rw [pcCells_length, ← HM.out]; omega) (.int .i64 (q.n + p.n))
              have t1 := (t0.upd (rowR w.heap.size 128 3 m (.slice (some ⟨gA, 0, none⟩) m oc2) ((pcCells fo).set ((m - 1) * 3 + 1) (.int .i64 (q.n + p.n)))) (i := 3) rfl ((Ch.refl (fun k => k = gA) _).set (b := gA) (o := (m - 1) * 3 + 1) (fun _ => rfl) (.int .i64 (q.n + p.n))) (fun k _ e => by rw [e]; rfl) tr (fun k e => .inl e)).drewN k2
              have ep := pcCells_set fi q (q.n + p.n)
              rw [HE3.out] at ep
              rw [HFI.out, ep] at t1
              have t2 := Mem.take 4 t1
              unfold fmL
              rw [show (fi ++ [(⟨q.k, q.n + p.n, q.s⟩ : Pc)]).length = m by rw [HMI.out]; simp]
              exact t2)
            have HKE := hid (show Dl.fret st p.n = ⟨fi ++ [⟨q.k, q.n + p.n, q.s⟩], [], 0⟩ from by
              show (⟨Dl.keep (Dl.fend st) p.n, [], 0⟩ : Dl.Fs) = _
              rw [← HFO.out]
              unfold Dl.keep
              rw [HFI.out]
              simp [HQK.out])
            clear hW5
            go_wp2_with fail
            go_roundw
            case rel =>
              refine ⟨k + 1, us2, bv2, .slice (some ⟨gA, 0, none⟩) m oc2, hlt, by go_num, ?_⟩
              rw [HST.out, HSTE.out, HKE.out]
              exact M5.out
            case measure => simp [intOf]; omega
          · have bq : (q.k == 1) = false := by simp [hqk]
            have HKE := hid (show Dl.fret st p.n = ⟨fo ++ [p], [], 0⟩ from by
              show (⟨Dl.keep (Dl.fend st) p.n, [], 0⟩ : Dl.Fs) = _
              have hpre := PRE.out
              rw [← HFO.out]
              unfold Dl.keep
              rw [HFI.out]
              simp [hqk, hpre])
            clear hqk
            have f9 : decide (m - 1 < m) = true := decide_eq_true (by omega)
            have g9 : decide ((m : Int) - 1 < (m : Int)) = true := decide_eq_true (by omega)
            clear hmi
            go_wp2_with (at_builtin; refine wpList_app _ rfl (.tmp 45) (.tmp 47) 77 rfl w.heap.size 128 i0 _ 3 32 Tryz.underlying77 hi hz0 hz1 hz2 rfl (by decide) _ _ _ rfl ((M2.out.alloc (.cells p.cells.toArray 128)).each 3 _ rfl) ⟨w2.heap.size, 0, none⟩ 1 1 p.cells rfl rfl ?cB1 ?cB2 (by decide) ?cB3 ?cB4 ?cB5 ?cB6)
            case cB1 => intro j u hu; rw [addr_add0]; exact (Blk.cell (Blk.new w2 128 p.cells.toArray) j).trans (by simpa using hu)
            case cB2 => exact fun u hu => pc_one [p] u (by simpa [pcCells] using hu)
            case cB3 => unfold maxLen; omega
            case cB4 => omega
            case cB5 => exact Nat.le_trans M2.out.bz (by simp)
            case cB6 =>
              intro v' w3 hown' hgrow hfresh
              obtain ⟨Ag, cg, hgv, hcg⟩ := own_slice hown'
              subst hgv
              have M3 := hid ((M2.out.alloc (.cells p.cells.toArray 128)).app (i := 3) rfl hown' hgrow hfresh)
              have o0 : w3.cell? ⟨ob, 0, none⟩ = some (.slice (some ⟨gA, 0, none⟩) m oc2) := Blk.cell (M3.out.each 1 _ rfl) 0
              have fo := Blk.free (M3.out.each 1 _ rfl) 0
              clear hown' hgrow hfresh
              have M4 := hid (M3.out.put (i := 1) rfl 0 (.slice Ag (m + 1) cg))
              go_wp2_with fail
              go_roundw
              case rel =>
                refine ⟨k + 1, us2, bv2, .slice Ag (m + 1) cg, hlt, by go_num, ?_⟩
                rw [HST.out, HSTE.out, HKE.out]
                have t := Mem.take 4 M4.out
                simp only [fmL, List.length_append, List.length_cons, List.length_nil, pcCells_app, pcCells_one, HM.out] at t ⊢
                exact t
              case measure => simp [intOf]; omega
      · have bk2 : (p.k == 2) = true := by simp [hpk]
        have HSTE := hid (show Dl.fstep st p = Dl.fins st (Dl.bytes p) from by simp [Dl.fstep, hpk])
        have hsz : (p.s.size : Int) ≤ 2000000 := by
          have t := (HBD.out (k + 1)).2.2.2.1
          rw [HST.out, HSTE.out] at t
          simp only [Dl.fins, List.length_append] at t
          rw [show (Dl.bytes p).length = p.s.size from Dl.size_list p.s] at t
          omega
        clear hpk
        go_wp2_with fail
        refine calls_world fun wp hwp => ?_
        have MP := hid (show Mem w.heap.size w (fmL w.heap.size bb us bv st.t ob ov gb st.g st.out) wp from by rw [hwp]; exact HM0.out.alloc _)
        clear hwp c0 c1 c2
        refine (writeStr_any w.heap.size bb us bv st.t p.s wp (MP.out.each 0 _ rfl) MP.out.bz (by omega)).mono ?_
        rintro e w2 ⟨v', rfl, hB2, hc2, hf2⟩
        have M2 := hid (MP.out.upd (bldR w.heap.size bb true v' (st.t ++ p.s.data.toList)) (i := 0) rfl hc2 (fun j _ e => e) hB2 (fun j e => by
          rcases e with e | e
          · exact .inl (.inl e)
          · rcases hf2 with h | h
            · exact .inl (.inr (by rw [← h]; exact e))
            · exact .inr (h j e)))
        clear hB2 hc2 hf2
        go_wp2_with fail
        go_roundw
        case rel =>
          refine ⟨k + 1, true, v', ov, hlt, by go_num, ?_⟩
          rw [HST.out, HSTE.out]
          exact M2.out
        case measure => simp [intOf]; omega
      · have bk2 : (p.k == 2) = false := by simp [hpk]
        have bk3 : (p.k == 3) = true := by simp [hpk]
        have HSTE := hid (show Dl.fstep st p = Dl.fdel st p.n from by simp [Dl.fstep, hpk])
        clear hpk
        have u0 : wr.cell? ⟨gb, 0, none⟩ = some (.int .i64 st.g) := Blk.cell (HM0.out.each 2 _ rfl) 0
        have fu := Blk.free (HM0.out.each 2 _ rfl) 0
        have lu := Blk.lt (HM0.out.each 2 _ rfl)
        have MP := hid ((HM0.out.put (i := 2) rfl 0 (.int .i64 (st.g + p.n))).alloc (.cells #[.int .u8 p.k, .int .i64 p.n, .string p.s] 128))
        go_wp2_with fail
        refine ⟨⟨k + 1, us, bv, ov, hlt, by push_cast; rfl, ?_⟩, by simp only [intOf]; omega⟩
        rw [HST.out, HSTE.out]
        exact MP.out
    · obtain rfl : k = n := by omega
      have d3 : decide ((k : Int) < (k : Int)) = false := decide_eq_false (by omega)
      have HTK := hid (show Dl.form xs = Dl.fend (Dl.frun (xs.take k) Dl.fzero) from by unfold Dl.form; rw [List.take_of_length_le (by omega)])
      obtain ⟨st, hst⟩ : ∃ st, st = (Dl.frun (xs.take k) Dl.fzero) := ⟨_, rfl⟩
      rw [← hst] at hM b1 g0 g1 b3 b5 b6 b7 HTK
      have HM0 := hid hM
      clear hM hst b1
      go_wp2_with fail
      refine (flush_any w.heap.size bb us bv st.t ob ov gb st.g st.out [] w wr (by rw [List.append_nil]; exact HM0.out) g0 (by omega) (by omega)).mono ?_
      rintro e w2 ⟨rfl, us2, bv2, ov2, hM2⟩
      have M2 := hid hM2
      clear hM2
      have o0 : w2.cell? ⟨ob, 0, none⟩ = some ov2 := Blk.cell (M2.out.each 1 _ rfl) 0
      obtain ⟨oa2, oc2, hov2, _⟩ := own_slice (show w2.ownsRow w.heap.size 128 3 ov2 _ (pcCells (st.out ++ Dl.gap st.t st.g)) from M2.out.each 3 _ rfl)
      rw [hov2] at o0
      obtain ⟨m, hm⟩ : ∃ m, m = (st.out ++ Dl.gap st.t st.g).length := ⟨_, rfl⟩
      have RW := hid (show w2.ownsRow w.heap.size 128 3 ov2 (st.out ++ Dl.gap st.t st.g).length (pcCells (st.out ++ Dl.gap st.t st.g)) from M2.out.each 3 _ rfl)
      rw [hov2] at RW
      rw [← hm] at RW o0
      have HM := hid hm
      clear hm hov2
      go_wp2_with fail
      go_ret
      rw [HTK.out]
      refine ⟨.slice oa2 m oc2, rfl, ?_, M2.out.ch rfl⟩
      show w2.ownsRow w.heap.size 128 3 (.slice oa2 m oc2) (st.out ++ Dl.gap st.t st.g).length (pcCells (st.out ++ Dl.gap st.t st.g))
      rw [← HM.out]
      exact RW.out
end Go.Proofs.YtefpabicgefciaaGreat
namespace Go.Proofs.YtefpabicgefciaaGreat
open Go.RowKit
set_option linter.unusedVariables false
set_option linter.unusedSimpArgs false
set_option linter.unusedSectionVars false
namespace Dl
def tot : List Pc → Nat
  | [] => 0
  | x :: d => (long x).toNat + tot d
theorem tot_le : ∀ {d : List Pc}, OkL d → (tot d : Int) ≤ inl d + oul d
  | [], _ => by simp [tot, inl, oul]
  | x :: d, h => by
    have h1 := h.cons.1
    have h2 := tot_le h.cons.2
    unfold tot inl oul inn oun
    have : long x ≤ x.n + ((if x.k = 1 then x.n else 0) + x.s.size) := by
      unfold long
      rcases h1 with ⟨_, h, _⟩ | ⟨h0, h, _⟩
      · split <;> omega
      · rw [if_neg (by omega)]; omega
    have := h1.long_pos
    push_cast
    omega
theorem len_tot : ∀ {d : List Pc}, OkL d → d.length ≤ tot d
  | [], _ => Nat.le_refl 0
  | x :: d, h => by
    have h1 := h.cons.1.long_pos
    have h2 := len_tot h.cons.2
    unfold tot
    rw [List.length_cons]
    omega
/-- Valid pieces of moderate size. -/
def Sm1 (x : Pc) : Prop := Ok x ∧ x.n ≤ 2000000 ∧ x.s.size ≤ 2000000
def Sm (d : List Pc) : Prop := ∀ x ∈ d, Sm1 x
theorem Sm.ok {d : List Pc} (h : Sm d) : OkL d := fun x hx => (h x hx).1
theorem Sm.cons {x : Pc} {d : List Pc} (h : Sm (x :: d)) : Sm1 x ∧ Sm d := ⟨h x (by simp), fun y hy => h y (by simp [hy])⟩
theorem sm_of {d : List Pc} (h : OkL d) (h1 : inl d ≤ 2000000) (h2 : oul d ≤ 2000000) : Sm d := fun x hx => by
  obtain ⟨t1, t2⟩ := mem_le h hx
  have h3 := h x hx
  unfold inn at t1
  unfold oun at t2
  refine ⟨h3, by omega, ?_⟩
  have : (0 : Int) ≤ if x.k = 1 then x.n else 0 := by
    have := h3.inn0
    unfold inn at this
    split <;> omega
  omega
theorem sm_cut {x : Pc} (h : Sm1 x) {n : Int} (h1 : 1 ≤ n) (h2 : n < long x) : Sm1 (cut1 x n) ∧ Sm1 (cut2 x n) := by
  obtain ⟨h0, h3, h4⟩ := h
  obtain ⟨c1, c2, _, _⟩ := h0.cut h1 h2
  have e := h0
  unfold long at h2
  rcases e with ⟨hk, h5, h6⟩ | ⟨hk, h5, h6⟩
  · have e : x.k ≠ 2 := by omega
    refine ⟨⟨c1, ?_, ?_⟩, ⟨c2, ?_, ?_⟩⟩ <;> simp only [cut1, cut2, if_neg e] <;> omega
  · refine ⟨⟨c1, ?_, ?_⟩, ⟨c2, ?_, ?_⟩⟩ <;> simp only [cut1, cut2, if_pos hk, size_extract] <;> omega
theorem sm_left {x : Pc} {d : List Pc} (h : Sm (x :: d)) {n : Int} (h1 : 1 ≤ n) : Sm (left x d n) := by
  unfold left
  split
  · next h2 =>
    intro y hy
    rcases List.mem_cons.1 hy with rfl | hy
    · exact (sm_cut h.cons.1 h1 h2).2
    · exact h.cons.2 y hy
  · exact h.cons.2
theorem tot_left {x : Pc} {d : List Pc} (h : Ok x) {n : Nat} (h1 : 1 ≤ n) (h2 : (n : Int) ≤ long x) : tot (left x d n) + n = tot (x :: d) := by
  unfold left
  split
  · next h3 =>
    obtain ⟨_, _, _, e⟩ := h.cut (n := (n : Int)) (by omega) h3
    unfold tot
    rw [e]
    omega
  · rw [show tot (x :: d) = (long x).toNat + tot d from rfl]
    omega
theorem comp_del {x : Pc} {a b : List Pc} (h : x.k = 3) : comp (x :: a) b = x :: comp a b := by
  cases b <;> rw [comp] <;> simp [h]
theorem comp_ins {y : Pc} {a b : List Pc} (ha : ∀ x, a.head? = some x → x.k ≠ 3) (h : y.k = 2) : comp a (y :: b) = y :: comp a b := by
  cases a with
  | nil => rw [comp]; simp [h]
  | cons x a => rw [comp]; simp [h, ha x rfl]
theorem comp_end {a b : List Pc} (ha : ∀ x, a.head? = some x → x.k ≠ 3) (hb : ∀ y, b.head? = some y → y.k ≠ 2) (h : a = [] ∨ b = []) : comp a b = [] := by
  cases a with
  | nil =>
    cases b with
    | nil => rw [comp]
    | cons y b => rw [comp]; simp [hb y rfl]
  | cons x a =>
    cases b with
    | nil => rw [comp]; simp [ha x rfl]
    | cons y b => simp at h
theorem comp_both {x y : Pc} {a b : List Pc} (h1 : x.k ≠ 3) (h2 : y.k ≠ 2) (n : Int) (hn : n = min (long x) (long y)) : comp (x :: a) (y :: b) = both (part x n) (part y n) ++ comp (left x a n) (left y b n) := by
  rw [hn, comp]; simp [h1, h2]
end Dl
end Go.Proofs.YtefpabicgefciaaGreat
namespace Go.Proofs.YtefpabicgefciaaGreat
open Go.RowKit
set_option linter.unusedVariables false
set_option linter.unusedSimpArgs false
set_option linter.unusedSectionVars false
theorem str_eq {s : ByteArray} (h : s.size = 0) : s = ⟨#[]⟩ := by
  apply ByteArray.ext
  exact Array.eq_empty_of_size_eq_zero h
def ful (p : Pc) : List Pc := if 0 < p.n ∨ p.s.size ≠ 0 then [p] else []
set_option maxRecDepth 100000 in
set_option maxHeartbeats 1000000 in
theorem rput_any (B ob : Nat) (ov : Value) (out : List Pc) (L2 : List Res) (w0 w : World) (p : Pc) (h : Mem B w0 (blkR ob 77 #[ov] :: rowR B 128 3 out.length ov (pcCells out) :: L2) w) (hn : out.length ≤ 10000000) :
    Calls Tryz.prog 131 #[.agg #[.int .u8 p.k, .int .i64 p.n, .string p.s], .pointer (some ⟨ob, 0, none⟩)] w fun e w' => e = .returned (.tuple #[]) ∧ ∃ ov', Mem B w0 (blkR ob 77 #[ov'] :: rowR B 128 3 (out ++ ful p).length ov' (pcCells (out ++ ful p)) :: L2) w' := by
  obtain ⟨i0, hi, hz0, hz1, hz2⟩ := info_parts infoPc
  obtain ⟨oa, oc, hov, _⟩ := own_slice (show w.ownsRow B 128 3 ov out.length (pcCells out) from h.each 1 _ rfl)
  subst hov
  have M0 := hid h
  have o0 : w.cell? ⟨ob, 0, none⟩ = some (.slice oa out.length oc) := Blk.cell (h.each 0 _ rfl) 0
  have fo := Blk.free (h.each 0 _ rfl) 0
  have lo := Blk.lt (h.each 0 _ rfl)
  clear h
  have nob : ob ≠ w.heap.size := by omega
  by_cases hf : 0 < p.n ∨ p.s.size ≠ 0
  · have HF := hid (show ful p = [p] from by unfold ful; rw [if_pos hf])
    by_cases h0 : 0 < p.n
    · have d0 : decide (0 < p.n) = true := decide_eq_true h0
      clear hf
      have hw1 : (w.alloc (.cells p.cells.toArray 128)).heap.size = w.heap.size + 1 := by simp
      go_enter Tryz.func131, Tryz.ntmps131
      go_wp2_with (at_builtin; refine wpList_app _ rfl (.tmp 11) (.tmp 13) 77 rfl B 128 i0 _ 3 32 Tryz.underlying77 hi hz0 hz1 hz2 rfl (by decide) _ _ _ rfl ((M0.out.alloc (.cells p.cells.toArray 128)).alloc (.cells p.cells.toArray 128) |>.each 1 _ rfl) ⟨w.heap.size + 1, 0, none⟩ 1 1 p.cells rfl rfl ?ca1 ?ca2 (by decide) ?ca3 ?ca4 ?ca5 ?ca6)
      case ca1 => intro j u hu; first | (rw [addr_add0, ← hw1]; exact (Blk.cell (Blk.new _ 128 p.cells.toArray) j).trans (by simpa using hu)) | exact hu
      case ca2 => exact fun u hu => pc_one [p] u (by simpa [pcCells] using hu)
      case ca3 => unfold maxLen; omega
      case ca4 => omega
      case ca5 => have hbz := M0.out.bz; first | (simp; omega) | omega
      case ca6 =>
        intro v' w3 hown' hgrow hfresh
        obtain ⟨Ag, cg, hgv, hcg⟩ := own_slice hown'
        subst hgv
        have M3 := hid (((M0.out.alloc (.cells p.cells.toArray 128)).alloc (.cells p.cells.toArray 128)).app (i := 1) rfl hown' hgrow hfresh)
        have o1 : w3.cell? ⟨ob, 0, none⟩ = some (.slice oa out.length oc) := Blk.cell (M3.out.each 0 _ rfl) 0
        have f1 := Blk.free (M3.out.each 0 _ rfl) 0
        clear hown' hgrow hfresh
        have M4 := hid (M3.out.put (i := 0) rfl 0 (.slice Ag (out.length + 1) cg))
        go_wp2_with fail
        go_end0
        refine ⟨rfl, .slice Ag (out.length + 1) cg, ?_⟩
        rw [HF.out]
        have t := M4.out
        simp only [List.length_append, List.length_cons, List.length_nil, pcCells_app, pcCells_one] at t ⊢
        exact t
    · have d0 : decide (0 < p.n) = false := decide_eq_false h0
      have d1 : p.s.toList.isEmpty = false := by rw [empty_iff]; exact decide_eq_false (hf.resolve_left h0)
      clear hf
      have hw1 : (w.alloc (.cells p.cells.toArray 128)).heap.size = w.heap.size + 1 := by simp
      go_enter Tryz.func131, Tryz.ntmps131
      go_wp2_with (at_builtin; refine wpList_app _ rfl (.tmp 11) (.tmp 13) 77 rfl B 128 i0 _ 3 32 Tryz.underlying77 hi hz0 hz1 hz2 rfl (by decide) _ _ _ rfl ((M0.out.alloc (.cells p.cells.toArray 128)).alloc (.cells p.cells.toArray 128) |>.each 1 _ rfl) ⟨w.heap.size + 1, 0, none⟩ 1 1 p.cells rfl rfl ?cb1 ?cb2 (by decide) ?cb3 ?cb4 ?cb5 ?cb6)
      case cb1 => intro j u hu; first | (rw [addr_add0, ← hw1]; exact (Blk.cell (Blk.new _ 128 p.cells.toArray) j).trans (by simpa using hu)) | exact hu
      case cb2 => exact fun u hu => pc_one [p] u (by simpa [pcCells] using hu)
      case cb3 => unfold maxLen; omega
      case cb4 => omega
      case cb5 => have hbz := M0.out.bz; first | (simp; omega) | omega
      case cb6 =>
        intro v' w3 hown' hgrow hfresh
        obtain ⟨Ag, cg, hgv, hcg⟩ := own_slice hown'
        subst hgv
        have M3 := hid (((M0.out.alloc (.cells p.cells.toArray 128)).alloc (.cells p.cells.toArray 128)).app (i := 1) rfl hown' hgrow hfresh)
        have o1 : w3.cell? ⟨ob, 0, none⟩ = some (.slice oa out.length oc) := Blk.cell (M3.out.each 0 _ rfl) 0
        have f1 := Blk.free (M3.out.each 0 _ rfl) 0
        clear hown' hgrow hfresh
        have M4 := hid (M3.out.put (i := 0) rfl 0 (.slice Ag (out.length + 1) cg))
        go_wp2_with fail
        go_end0
        refine ⟨rfl, .slice Ag (out.length + 1) cg, ?_⟩
        rw [HF.out]
        have t := M4.out
        simp only [List.length_append, List.length_cons, List.length_nil, pcCells_app, pcCells_one] at t ⊢
        exact t
  · have HF := hid (show ful p = [] from by unfold ful; rw [if_neg hf])
    have h1 : decide (0 < p.n) = false := decide_eq_false (fun h => hf (.inl h))
    have h2 : p.s = ⟨#[]⟩ := str_eq (Classical.byContradiction fun h => hf (.inr h))
    clear hf
    go_enter Tryz.func131, Tryz.ntmps131
    go_wp2_with fail
    go_end0
    refine ⟨rfl, .slice oa out.length oc, ?_⟩
    rw [HF.out, List.append_nil]
    exact M0.out.alloc _
set_option maxRecDepth 100000 in
set_option maxHeartbeats 1000000 in
theorem normalize_any (a : Option Addr) (n c : Nat) (xs : List Pc) (w : World) (ha : InPc w a n xs) (hz : Dl.chkL xs = 0) : Calls Tryz.prog 132 #[.slice a n c] w fun e w' => ∃ v, e = .returned (.tuple #[v, .int .i64 0]) ∧ w'.ownsRow w.heap.size 128 3 v (Dl.form xs).length (pcCells (Dl.form xs)) ∧ Ch (fun _ => False) w w' := by
  obtain ⟨b1, b2, b3, b4⟩ := Dl.chkL_zero.1 hz
  have HB := hid (show Dl.OkL xs ∧ Dl.inl xs ≤ 2000000 ∧ Dl.oul xs ≤ 2000000 from ⟨b2, by omega, by omega⟩)
  have hn : n ≤ 4096 := by rw [← ha.1]; exact b1
  have HA := hid ha
  have HZ := hid hz
  clear ha hz b1 b2 b3 b4
  go_enter Tryz.func132, Tryz.ntmps132
  go_wp2_with fail
  refine (dcheck_any a n c xs w HA.out (by omega)).mono ?_
  rintro e w1 ⟨rfl, hc⟩
  rw [HZ.out]
  have C1 := hid hc
  clear hc
  go_wp2_with fail
  refine (form_any a n c xs w1 (HA.out.keep C1.out (fun _ _ _ _ => id)) HB.out.1 HB.out.2.1 HB.out.2.2 (by omega)).mono ?_
  rintro e w2 ⟨v, rfl, hown, hc2⟩
  have O2 := hid (own_mono hown C1.out.size)
  have C2 := hid (C1.out.trans hc2 (fun _ _ h => h))
  clear hown hc2
  go_wp2_with fail
  go_ret2
  exact ⟨v, rfl, O2.out, C2.out⟩
/-- What Replace puts together. -/
def replL (n at' k : Nat) (t : ByteArray) : List Pc := ful ⟨1, at', ⟨#[]⟩⟩ ++ ful ⟨2, 0, t⟩ ++ ful ⟨3, k, ⟨#[]⟩⟩ ++ ful ⟨1, (n : Int) - at' - k, ⟨#[]⟩⟩
theorem ful_ok {p : Pc} (h : 0 < p.n ∨ p.s.size ≠ 0 → Dl.Ok p) : Dl.OkL (ful p) := by
  unfold ful
  split
  · rename_i hp
    intro x hx
    simp at hx
    rw [hx]; exact h hp
  · intro x hx; simp at hx
theorem replL_ok (n at' k : Nat) (t : ByteArray) : Dl.OkL (replL n at' k t) := by
  unfold replL
  refine ((Dl.OkL.app (ful_ok fun h => ?_) (ful_ok fun h => ?_)).app (ful_ok fun h => ?_)).app (ful_ok fun h => ?_)
  · refine .inl ⟨.inl rfl, ?_, rfl⟩
    rcases h with h | h
    · exact h
    · exact absurd rfl h
  · refine .inr ⟨rfl, rfl, ?_⟩
    rcases h with h | h
    · exact absurd h (Int.lt_irrefl 0)
    · exact h
  · refine .inl ⟨.inr rfl, ?_, rfl⟩
    rcases h with h | h
    · exact h
    · exact absurd rfl h
  · refine .inl ⟨.inl rfl, ?_, rfl⟩
    rcases h with h | h
    · exact h
    · exact absurd rfl h
theorem ful_sums (p : Pc) (h : 0 ≤ p.n) : Dl.inl (ful p) = p.n ∧ Dl.oul (ful p) = Dl.oun p ∧ (∀ i, Dl.atoms i (ful p) = Dl.atom1 i p) ∧ (ful p).length ≤ 1 := by
  unfold ful
  split
  · exact ⟨by simp [Dl.inl, Dl.inn], by simp [Dl.oul], fun i => by simp [Dl.atoms], by simp⟩
  · rename_i hp
    have h0 : p.n = 0 := by omega
    have h1 : p.s.size = 0 := Classical.byContradiction fun e => hp (.inr e)
    refine ⟨by simp [Dl.inl, h0], by simp [Dl.oul, Dl.oun, h0, h1], fun i => ?_, by simp⟩
    have : Dl.bytes p = [] := Dl.bytes_nil h1
    unfold Dl.atom1
    rw [this, h0]
    simp [Dl.atoms, Dl.ups]
theorem replL_sums {n at' k : Nat} (t : ByteArray) (h1 : at' + k ≤ n) : Dl.inl (replL n at' k t) = n ∧ Dl.oul (replL n at' k t) = ((n - k + t.size : Nat) : Int) ∧ (replL n at' k t).length ≤ 4 := by
  obtain ⟨a1, a2, _, a4⟩ := ful_sums ⟨1, at', ⟨#[]⟩⟩ (by simp)
  obtain ⟨b1, b2, _, b4⟩ := ful_sums ⟨2, 0, t⟩ (by simp)
  obtain ⟨c1, c2, _, c4⟩ := ful_sums ⟨3, k, ⟨#[]⟩⟩ (by simp)
  obtain ⟨d1, d2, _, d4⟩ := ful_sums ⟨1, (n : Int) - at' - k, ⟨#[]⟩⟩ (by show (0 : Int) ≤ (n : Int) - at' - k; omega)
  unfold replL
  refine ⟨?_, ?_, ?_⟩
  · rw [Dl.inl_app, Dl.inl_app, Dl.inl_app, a1, b1, c1, d1]; show (at' : Int) + 0 + k + ((n : Int) - at' - k) = n; omega
  · rw [Dl.oul_app, Dl.oul_app, Dl.oul_app, a2, b2, c2, d2]
    simp only [Dl.oun]
    have e : ((⟨#[]⟩ : ByteArray).size : Int) = 0 := rfl
    simp only [e]
    simp
    omega
  · simp only [List.length_append]; omega
theorem replL_chk {n at' k : Nat} {t : ByteArray} (h1 : at' + k ≤ n) (hn : n ≤ 1000) (ht : t.size ≤ 1000) : Dl.chkL (replL n at' k t) = 0 := by
  obtain ⟨a, b, c⟩ := replL_sums t h1
  exact Dl.chkL_zero.2 ⟨by omega, replL_ok n at' k t, by omega, by omega⟩
set_option maxRecDepth 100000 in
set_option maxHeartbeats 1000000 in
theorem replace_any (n at' k : Nat) (t : ByteArray) (w : World) (h1 : at' + k ≤ n) (hn : n ≤ 1000) (ht : t.size ≤ 1000) :
    Calls Tryz.prog 94 #[.int .i64 (n : Int), .int .i64 (at' : Int), .int .i64 (k : Int), .string t] w fun e w' => ∃ v, e = .returned (.tuple #[v, .int .i64 0]) ∧ w'.ownsRow w.heap.size 128 3 v (Dl.form (replL n at' k t)).length (pcCells (Dl.form (replL n at' k t))) ∧ Ch (fun _ => False) w w' := by
  have b1 : decide ((at' : Int) < 0) = false := decide_eq_false (by omega)
  have b2 : decide ((n : Int) < (at' : Int)) = false := decide_eq_false (by omega)
  have b2' : decide (n < at') = false := decide_eq_false (by omega)
  have b3 : decide ((k : Int) < 0) = false := decide_eq_false (by omega)
  have w1 : IntKind.i64.wrap ((n : Int) - (at' : Int)) = (n : Int) - at' := IntWalk.i64_in _ (by omega)
  have b4 : decide ((n : Int) - (at' : Int) < (k : Int)) = false := decide_eq_false (by omega)
  have b5 : decide ((1048576 : Int) < (n : Int)) = false := decide_eq_false (by omega)
  have w2 : IntKind.i64.wrap ((n : Int) - (k : Int)) = (n : Int) - k := IntWalk.i64_in _ (by omega)
  have w3 : IntKind.i64.wrap (1048576 - ((n : Int) - (k : Int))) = 1048576 - ((n : Int) - k) := IntWalk.i64_in _ (by omega)
  have b6 : decide (1048576 - ((n : Int) - (k : Int)) < (t.size : Int)) = false := decide_eq_false (by omega)
  have w4 : IntKind.i64.wrap ((n : Int) - (at' : Int) - (k : Int)) = (n : Int) - at' - k := IntWalk.i64_in _ (by omega)
  have HZ := hid (replL_chk h1 hn ht)
  have HRL := hid (show ful ⟨1, at', ⟨#[]⟩⟩ ++ ful ⟨2, 0, t⟩ ++ ful ⟨3, k, ⟨#[]⟩⟩ ++ ful ⟨1, (n : Int) - at' - k, ⟨#[]⟩⟩ = replL n at' k t from rfl)
  obtain ⟨rl, hrl⟩ : ∃ l, l = replL n at' k t := ⟨_, rfl⟩
  rw [← hrl] at HZ HRL ⊢
  clear hrl
  have hfl : ∀ p, (ful p).length ≤ 1 := fun p => by unfold ful; split <;> simp
  have HF := hid hfl
  clear hfl
  go_enter Tryz.func94, Tryz.ntmps94
  go_wp2_with fail
  refine calls_world fun W1 hW1 => ?_
  obtain ⟨ob, hob⟩ : ∃ b, b = w.heap.size := ⟨_, rfl⟩
  have M1 := hid (show Mem w.heap.size w (blkR ob 77 #[.slice none 0 0] :: rowR w.heap.size 128 3 ([] : List Pc).length (.slice none 0 0) (pcCells ([] : List Pc)) :: []) W1 from by
    rw [hW1, hob]
    exact Mem.cons (Mem.cons (Mem.nil (Nat.le_refl _) (Below.refl _ _)) (rowR w.heap.size 128 3 0 (.slice none 0 0) []) (Ch.refl _ _) (World.ownsRow_nil _ _ _ _) (fun k hk => by cases hk)) (blkR w.heap.size 77 #[.slice none 0 0]) ((Ch.refl _ _).alloc _) (Blk.new w _ _) (fun k e => Nat.le_of_eq e.symm))
  rw [← hob]
  clear hW1 hob
  refine (rput_any w.heap.size ob (.slice none 0 0) ([] : List Pc) [] w W1 ⟨1, at', ⟨#[]⟩⟩ M1.out (by simp)).mono ?_
  rintro e v0 ⟨rfl, ov0, hm⟩
  obtain ⟨o0, ho0⟩ : ∃ o, o = ([] : List Pc) ++ ful ⟨1, at', ⟨#[]⟩⟩ := ⟨_, rfl⟩
  rw [← ho0] at hm
  have bl0 : o0.length ≤ 1 := by rw [ho0, List.length_append]; have := HF.out ⟨1, at', ⟨#[]⟩⟩; simp; omega
  have HO0 := hid ho0
  have N0 := hid hm
  clear hm ho0
  go_wp2_with fail
  refine (rput_any w.heap.size ob (ov0) (o0) [] w v0 ⟨2, 0, t⟩ N0.out (by omega)).mono ?_
  rintro e v1 ⟨rfl, ov1, hm⟩
  obtain ⟨o1, ho1⟩ : ∃ o, o = o0 ++ ful ⟨2, 0, t⟩ := ⟨_, rfl⟩
  rw [← ho1] at hm
  have bl1 : o1.length ≤ 2 := by rw [ho1, List.length_append]; have := HF.out ⟨2, 0, t⟩; omega
  have HO1 := hid ho1
  have N1 := hid hm
  clear hm ho1
  go_wp2_with fail
  refine (rput_any w.heap.size ob (ov1) (o1) [] w v1 ⟨3, k, ⟨#[]⟩⟩ N1.out (by omega)).mono ?_
  rintro e v2 ⟨rfl, ov2, hm⟩
  obtain ⟨o2, ho2⟩ : ∃ o, o = o1 ++ ful ⟨3, k, ⟨#[]⟩⟩ := ⟨_, rfl⟩
  rw [← ho2] at hm
  have bl2 : o2.length ≤ 3 := by rw [ho2, List.length_append]; have := HF.out ⟨3, k, ⟨#[]⟩⟩; omega
  have HO2 := hid ho2
  have N2 := hid hm
  clear hm ho2
  go_wp2_with fail
  refine (rput_any w.heap.size ob (ov2) (o2) [] w v2 ⟨1, (n : Int) - at' - k, ⟨#[]⟩⟩ N2.out (by omega)).mono ?_
  rintro e v3 ⟨rfl, ov3, hm⟩
  obtain ⟨o3, ho3⟩ : ∃ o, o = o2 ++ ful ⟨1, (n : Int) - at' - k, ⟨#[]⟩⟩ := ⟨_, rfl⟩
  rw [← ho3] at hm
  have bl3 : o3.length ≤ 4 := by rw [ho3, List.length_append]; have := HF.out ⟨1, (n : Int) - at' - k, ⟨#[]⟩⟩; omega
  have HO3 := hid ho3
  have N3 := hid hm
  clear hm ho3
  have HOL := hid (show o3 = rl from by rw [HO3.out, HO2.out, HO1.out, HO0.out, ← HRL.out]; simp)
  obtain ⟨A, cp, hov, _, _, hin⟩ := own_pc (show v3.ownsRow w.heap.size 128 3 ov3 o3.length (pcCells o3) from N3.out.each 1 _ rfl)
  subst hov
  have u0 : v3.cell? ⟨ob, 0, none⟩ = some (.slice A o3.length cp) := Blk.cell (N3.out.each 0 _ rfl) 0
  have lo := Blk.lt (N3.out.each 0 _ rfl)
  have HIN := hid hin
  clear hin
  go_wp2_with fail
  refine (normalize_any A o3.length cp rl v3 (by rw [← HOL.out]; exact HIN.out) HZ.out).mono ?_
  rintro e v4 ⟨v, rfl, hown, hc⟩
  have O4 := hid (own_mono hown N3.out.bz)
  have C4 := hid (show Ch (fun _ => False) w v4 from Ch.trans ⟨N3.out.bel.os, N3.out.bel.tape, N3.out.bel.output, N3.out.bel.size, fun k hk _ => N3.out.bel.block k hk⟩ hc (fun _ _ h => h))
  clear hown hc
  go_wp2_with fail
  go_ret2
  exact ⟨v, rfl, O4.out, C4.out⟩
end Go.Proofs.YtefpabicgefciaaGreat
namespace Go.Proofs.YtefpabicgefciaaGreat
open Go.RowKit
set_option linter.unusedVariables false
set_option linter.unusedSimpArgs false
set_option linter.unusedSectionVars false
section
variable {P : Program}
theorem run_app0P (w : World) (t ty e : TypeId) (i : TypeInfo) (ht : P.underlying t = some (.slice e)) (hi : P.info? e = some i) (base : Option Addr) (sLen sCap : Nat) (hle : sLen ≤ sCap) (xb : Option Addr) (xc : Nat) :
    (Builtin.append_ #[t, t] ty #[.slice base sLen sCap, .slice xb 0 xc]).run P w = .ok (.slice base sLen sCap) w := by
  cases base <;> cases xb <;> simp [Builtin.append_, run_underlying ht, sizeOf, typeInfo, hi, hle, Builtin.lenOf, Builtin.firstCells, loadCells, loadCellsFrom, storeCells]
end
/-- A slice of pieces that the call made. -/
def MadeP (B : Nat) (w : World) (v : Value) (l : List Pc) : Prop := w.ownsRow B 128 3 v l.length (pcCells l)
theorem inpc_flat {w : World} {b off n : Nat} {xs : List Pc} (h : InPc w (some ⟨b, off, none⟩) n xs) (j : Nat) (u : Value) (hu : (pcCells xs)[j]? = some u) : w.cell? ⟨b, off + j, none⟩ = some u := by
  have hl : j < n * 3 := by have := (List.getElem?_eq_some_iff.1 hu).1; rw [pcCells_length, h.1] at this; exact this
  obtain ⟨b1, o1, hb, hbl, h1⟩ := h.2 (by omega)
  injection hb with hb
  injection hb with e1 e2
  subst e1 e2
  obtain ⟨x, hx⟩ : ∃ x, xs[j / 3]? = some x := ⟨_, List.getElem?_eq_getElem (by rw [h.1]; omega)⟩
  have hxc : x.cells[j % 3]? = some u := by
    have hm : j % 3 < x.cells.length := by simp [Pc.cells]; omega
    have := pcCells_get xs (j / 3) x hx (j % 3) _ (List.getElem?_eq_getElem hm)
    rw [show j / 3 * 3 + j % 3 = j by omega, hu] at this
    rw [List.getElem?_eq_getElem hm, ← Option.some.inj this]
  have := h1 (j / 3) (j % 3) x u hx hxc
  rw [show j / 3 * 3 + j % 3 = j by omega] at this
  exact this
/-- A slice value that holds pieces. -/
def PcAt (w : World) (v : Value) (l : List Pc) : Prop := ∃ A cp, v = .slice A l.length cp ∧ l.length ≤ cp ∧ (0 < l.length → ∃ b off, A = some ⟨b, off, none⟩ ∧ ∀ (j : Nat) (u : Value), (pcCells l)[j]? = some u → w.cell? ⟨b, off + j, none⟩ = some u)
theorem PcAt.keep {w w' : World} {v : Value} {l : List Pc} (h : PcAt w v l) (c : Ch (fun _ => False) w w') : PcAt w' v l := by
  obtain ⟨A, cp, h1, h2, h3⟩ := h
  refine ⟨A, cp, h1, h2, fun h0 => ?_⟩
  obtain ⟨b, off, hA, hc⟩ := h3 h0
  exact ⟨b, off, hA, fun j u hu => (c.cell (p := ⟨b, off + j, none⟩) (World.block_lt_of_cell? w _ (hc j u hu)) id).trans (hc j u hu)⟩
theorem PcAt.of_in {w : World} {A : Option Addr} {n cp : Nat} {l : List Pc} (h : InPc w A n l) (hc : n ≤ cp) : PcAt w (.slice A n cp) l := by
  refine ⟨A, cp, by rw [h.1], by rw [h.1]; exact hc, fun h0 => ?_⟩
  obtain ⟨b, off, hA, _⟩ := h.2 (by rw [← h.1]; exact h0)
  subst hA
  exact ⟨b, off, rfl, inpc_flat h⟩
theorem PcAt.in {w : World} {A : Option Addr} {n cp : Nat} {l : List Pc} (h : PcAt w (.slice A n cp) l) : InPc w A n l := by
  obtain ⟨A', cp', hv, _, h3⟩ := h
  injection hv with e1 e2 e3
  subst e1 e2
  refine ⟨rfl, fun h0 => ?_⟩
  obtain ⟨b, off, hA, hc⟩ := h3 h0
  refine ⟨b, off, hA, ?_, fun i j x v hx hj => hc _ v (pcCells_get l i x hx j v hj)⟩
  obtain ⟨x, hx⟩ : ∃ x, l[0]? = some x := ⟨_, List.getElem?_eq_getElem h0⟩
  exact World.block_lt_of_cell? w _ (hc _ _ (pcCells_get l 0 x hx 0 _ rfl))
/-- The first k lists. -/
def flatQ (L : List (List Pc)) (k : Nat) : List Pc := (L.take k).flatten
theorem flatQ_succ {L : List (List Pc)} {k : Nat} (h : k < L.length) : flatQ L (k + 1) = flatQ L k ++ L.getD k [] := by
  unfold flatQ
  rw [List.take_add_one, List.flatten_append, List.getD_eq_getElem?_getD, List.getElem?_eq_getElem h]
  simp
theorem flatQ_le (L : List (List Pc)) (k : Nat) : (flatQ L k).length ≤ L.flatten.length := by
  have : L.flatten = flatQ L k ++ (L.drop k).flatten := by
    unfold flatQ
    rw [← List.flatten_append, List.take_append_drop]
  rw [this, List.length_append]
  omega
theorem flatQ_all (L : List (List Pc)) : flatQ L L.length = L.flatten := by unfold flatQ; rw [List.take_length]
set_option maxRecDepth 100000 in
set_option maxHeartbeats 1000000 in
theorem grow_pc (n : Nat) (w : World) (hn : n < 3000000) :
    Calls Tryz.prog 186 #[.slice none 0 0, .int .i64 n] w fun e w' => ∃ v, e = .returned v ∧ MadeP w.heap.size w' v [] ∧ Ch (fun _ => False) w w' := by
  obtain ⟨i0, hi, hz0, hz1, hz2⟩ := info_parts (show (Tryz.prog.info? 128).map (fun i => (i.zero, i.size, i.bytes)) = some (some (Value.agg #[.int .u8 0, .int .i64 0, .string ⟨#[]⟩]), 3, 32) by kernel_rfl)
  have hw0 : IntKind.i64.wrap ((n : Int) - 0) = (n : Int) := by rw [Int.sub_zero]; exact IntWalk.i64_in _ (by omega)
  have hd0 : decide ((n : Int) < 0) = false := decide_eq_false (by omega)
  by_cases h0 : n = 0
  · subst h0
    go_enter Tryz.func186, Tryz.ntmps186
    go_wp2_with fail
    go_ret
    exact ⟨_, rfl, World.ownsRow_nil _ _ _ _, Ch.refl _ _⟩
  · have hd1 : decide ((n : Int) > 0) = true := decide_eq_true (by omega)
    have hd2 : decide ((0 : Int) < (n : Int)) = true := decide_eq_true (by omega)
    have hold : (Builtin.firstCells i0.size 0 (.slice none 0 0)).run Tryz.prog w.drew = .ok ([] : List Value).toArray w.drew := by simp [Builtin.firstCells]
    have hrz := fun ty => Lib.run_append_grow_zeros w 77 3 ty 128 i0 (Value.agg #[.int .u8 0, .int .i64 0, .string ⟨#[]⟩]) .i64 .i64 Tryz.underlying77 Tryz.underlying3 hi hz0 none 0 0 [] hold n (by omega) (by omega) (by omega) (by omega) (by rw [hz2]; omega)
      (growslice_fits (by omega) (by rw [hz2]; omega))
    have hG1 := grownCap_ge w (0 + n) 0 128
    have hG2 := grownCap_le_maxLen w (0 + n) 0 128 (by unfold maxLen; omega)
    obtain ⟨G, hG⟩ : ∃ G, G = grownCap w (0 + n) 0 128 := ⟨_, rfl⟩
    rw [← hG] at hrz hG1 hG2
    have hG63 : G ≤ 9223372036854775807 := by unfold maxLen at hG2; omega
    clear hold hG
    have HG2 := hid hG2
    have HR := hid hrz
    clear hG2 hrz
    go_enter Tryz.func186, Tryz.ntmps186
    go_wp2_with (at_builtin; refine Lib.wpList_append_run _ rfl _ _ _ _ rfl _ _ rfl rfl _ _ (HR.out _) ?_)
    go_ret
    refine ⟨_, rfl, ⟨rfl, .inr ⟨_, _, _, rfl, Nat.le_refl _, Blk.new w.drew _ _, Nat.zero_le _, HG2.out, ?_, rfl⟩⟩, ((Ch.refl (fun _ => False) w).drew).alloc _⟩
    simp [Builtin.zeroCells]
    omega
set_option maxRecDepth 100000 in
set_option maxHeartbeats 2000000 in
theorem concat_pc (ab ao m mc : Nat) (L : List (List Pc)) (V : Nat → Value) (w : World) (hm : m = L.length) (hV : ∀ k, k < m → w.cell? ⟨ab, ao + k, none⟩ = some (V k) ∧ PcAt w (V k) (L.getD k [])) (hT : L.flatten.length < 3000000) (hm1 : m < 2500000) :
    Calls Tryz.prog 167 #[.slice (some ⟨ab, ao, none⟩) m mc] w fun e w' => ∃ v, e = .returned v ∧ MadeP w.heap.size w' v L.flatten ∧ Ch (fun _ => False) w w' := by
  obtain ⟨i0, hi, hz0, hz1, hz2⟩ := info_parts (show (Tryz.prog.info? 128).map (fun i => (i.zero, i.size, i.bytes)) = some (some (Value.agg #[.int .u8 0, .int .i64 0, .string ⟨#[]⟩]), 3, 32) by kernel_rfl)
  have HV := hid hV
  have HM := hid hm
  have HT := hid hT
  clear hV hm hT
  go_enter Tryz.func167, Tryz.ntmps167
  go_wp2_with fail
  go_loopw [3, 11] (fun s i wr => ∃ k : Nat, k ≤ m ∧ i = .int .i64 k ∧ s = .int .i64 (flatQ L k).length ∧ ∃ d, wr = w.drewN d) (fun _ i _ => m - (intOf i).toNat)
  case atStart => exact ⟨0, Nat.zero_le _, rfl, rfl, 0, rfl⟩
  case round =>
    obtain ⟨k, hk, rfl, rfl, d, rfl⟩ := hrel
    by_cases hlt : k < m
    · obtain ⟨c1, A, cp, hv, hcp, _⟩ := HV.out k hlt
      rw [hv] at c1
      have hsu := flatQ_succ (L := L) (k := k) (by rw [← HM.out]; exact hlt)
      have hle := flatQ_le L (k + 1)
      have hT := HT.out
      rw [hsu, List.length_append] at hle
      obtain ⟨x, hx⟩ : ∃ x, x = (flatQ L k).length := ⟨_, rfl⟩
      obtain ⟨y, hy⟩ : ∃ y, y = (L.getD k []).length := ⟨_, rfl⟩
      rw [← hx, ← hy] at hle
      rw [← hy] at c1
      rw [← hx]
      have hrel2 : ((flatQ L (k + 1)).length : Int) = (x : Int) + (y : Int) := by rw [hsu, List.length_append, ← hx, ← hy]; omega
      have hwr : IntKind.i64.wrap ((x : Int) + (y : Int)) = (x : Int) + (y : Int) := IntWalk.i64_in _ (by omega)
      have d1 : decide ((k : Int) < (m : Int)) = true := decide_eq_true (by omega)
      have d1' : decide (k < m) = true := decide_eq_true hlt
      have d2 : decide ((x : Int) + (y : Int) < 0) = false := decide_eq_false (by omega)
      have HR := hid hrel2
      clear hrel2 hsu hle hT hv hcp hx hy
      go_wp2_with fail
      go_roundw
      case rel => exact ⟨k + 1, by omega, by go_num, by rw [HR.out], _, rfl⟩
      case measure => simp [intOf]; omega
    · obtain rfl : k = m := by omega
      have d1 : decide ((k : Int) < (k : Int)) = false := decide_eq_false (by omega)
      have d1' : decide (k < k) = false := decide_eq_false (by omega)
      have hfl : flatQ L k = L.flatten := by rw [HM.out, flatQ_all]
      rw [hfl]
      have HF := hid hfl
      clear hfl
      obtain ⟨n, hn⟩ : ∃ n, n = L.flatten.length := ⟨_, rfl⟩
      rw [← hn]
      have hn1 : n < 3000000 := by rw [hn]; exact HT.out
      have HN := hid hn
      clear hn
      go_wp2_with fail
      refine (grow_pc n (w.drewN d) hn1).mono ?_
      rintro e w1 ⟨v1, rfl, hown1, hch1⟩
      obtain ⟨A1, cp1, hv1, _⟩ := own_slice hown1
      subst hv1
      have hch1 : Ch (fun _ => False) w w1 := hch1.ofDrewN
      have HO1 := hid hown1
      have HC1 := hid hch1
      clear hown1 hch1
      go_wp2_with fail
      go_loopw [6, 27] (fun v i wr => ∃ j : Nat, j ≤ k ∧ i = .int .i64 j ∧ MadeP w.heap.size wr v (flatQ L j) ∧ Ch (fun _ => False) w wr) (fun _ i _ => k - (intOf i).toNat)
      case atStart => exact ⟨0, Nat.zero_le _, rfl, HO1.out, HC1.out⟩
      case round =>
        obtain ⟨j, hj, rfl, hown, hch⟩ := hrel
        obtain ⟨A0, cp0, hv0, hle0⟩ := own_slice hown
        subst hv0
        by_cases hjl : j < k
        · obtain ⟨c0, hV⟩ := HV.out j hjl
          have hV' := hV.keep hch
          obtain ⟨A, cp, hv, hcp, hrd⟩ := hV'
          have c1 : wr.cell? ⟨ab, ao + j, none⟩ = some (V j) := (hch.cell (World.block_lt_of_cell? w _ c0) id).trans c0
          rw [hv] at c1
          have hsu := flatQ_succ (L := L) (k := j) (by rw [← HM.out]; exact hjl)
          have hle := flatQ_le L (j + 1)
          have hT := HT.out
          rw [hsu, List.length_append] at hle
          have hsz : w.heap.size ≤ wr.heap.size := hch.size
          have HSU := hid hsu
          have HOW := hid hown
          have HCH := hid hch
          obtain ⟨x, hx⟩ : ∃ x, x = (flatQ L j).length := ⟨_, rfl⟩
          obtain ⟨y, hy⟩ : ∃ y, y = (L.getD j []).length := ⟨_, rfl⟩
          rw [← hx, ← hy] at hle
          rw [← hy] at c1 hcp hrd
          rw [← hx] at hle0 ⊢
          have HX := hid hx
          have HY := hid hy
          have HRD := hid hrd
          have d1 : decide ((j : Int) < (k : Int)) = true := decide_eq_true (by omega)
          have d1' : decide (j < k) = true := decide_eq_true hjl
          clear hsu hx hy hown hch hV hv c0 hrd
          have hown1 : wr.ownsRow w.heap.size 128 3 (.slice A0 x cp0) x (pcCells (flatQ L j)) := by have := HOW.out; unfold MadeP at this; rw [← HX.out] at this; exact this
          have HO2 := hid hown1
          clear hown1
          by_cases hy0 : y = 0
          · subst hy0
            have hrun := fun ty => run_app0P (P := Tryz.prog) wr 77 ty 128 i0 Tryz.underlying77 hi A0 x cp0 hle0 A cp
            have HRU := hid hrun
            clear hrun
            go_wp2_with (at_builtin; refine Lib.wpList_append_run _ rfl _ _ _ _ rfl _ _ rfl rfl _ _ (HRU.out _) ?_)
            go_roundw
            case rel =>
              have hnil : L.getD j [] = [] := List.length_eq_zero_iff.1 HY.out.symm
              exact ⟨j + 1, by omega, by go_num, by rw [HSU.out, hnil, List.append_nil]; unfold MadeP; rw [← HX.out]; exact HO2.out, HCH.out⟩
            case measure => simp [intOf]; omega
          · obtain ⟨b, off, rfl, hrc⟩ := HRD.out (by omega)
            have HRC := hid hrc
            clear hrc
            go_wp2_with (at_builtin; refine wpList_app _ rfl (.tmp 31) (.tmp 32) 77 rfl w.heap.size 128 i0 _ 3 32 Tryz.underlying77 hi hz0 hz1 hz2 rfl (by decide) _ _ _ rfl HO2.out ⟨b, off, none⟩ y cp (pcCells (L.getD j [])) rfl ?c0 ?c1 ?c2 (by omega) ?c3 ?c4 ?c5 ?c6)
            case c0 => rw [pcCells_length, ← HY.out]
            case c1 => intro i u hu; rw [addr_add]; exact HRC.out i u hu
            case c2 => exact pc_one _
            case c3 => unfold maxLen; omega
            case c4 => omega
            case c5 => exact hsz
            case c6 =>
              intro v' w' hown' hgrow hfresh
              have hch' : Ch (fun _ => False) w w' := HCH.out.grown hgrow (fun g hg hlt => (Nat.lt_irrefl _ (Nat.lt_of_lt_of_le hlt (HO2.out.lt g hg).1)).elim)
              go_wp2_with fail
              go_roundw
              case rel =>
                refine ⟨j + 1, by omega, by go_num, ?_, hch'⟩
                unfold MadeP
                rw [HSU.out, List.length_append, ← HX.out, ← HY.out]
                rw [pcCells_app]
                exact hown'
              case measure => simp [intOf]; omega
        · obtain rfl : j = k := by omega
          have d1 : decide ((j : Int) < (j : Int)) = false := decide_eq_false (by omega)
          have d1' : decide (j < j) = false := decide_eq_false (by omega)
          go_wp2_with fail
          go_ret
          exact ⟨_, rfl, by rw [← HF.out]; exact hown, hch⟩
end Go.Proofs.YtefpabicgefciaaGreat
