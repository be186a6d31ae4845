/- Texts XRdS, XRdT for XPcs, by trim.py. -/
import Derived.Test.YtjcdknhejcbpiaaGreatPb33
import Derived.Test.YtjcdknhejcbpiaaGreatPb11
import Derived.Laws.IdiomStrings
import Derived.Lib.BufferRead
namespace Go.Proofs.YtjcdknhejcbpiaaGreat
open Go.RowKit
set_option linter.unusedVariables false
set_option linter.unusedSimpArgs false
set_option linter.unusedSectionVars false
set_option maxRecDepth 100000
theorem txc_app (l : List UInt8) (s : ByteArray) : txCells (l ++ s.data.toList) = txCells l ++ Lib.strCells s := by
  unfold txCells
  rw [List.map_append]
  rfl
section
variable {B : Nat} {w0 w : World} {R : List Res} {σ : RS} {y : Ly} {n m : Nat}
/-- Bytes are appended to the reader's text. -/
def TakeOut (B : Nat) (w0 : World) (R : List Res) (σ : RS) (sv : ByteArray) (k : Nat) (w : World) (e : Ending) (w' : World) : Prop := e = .returned (.tuple #[]) ∧ ∃ tv, Mem B w0 (RS.L B { σ with r := { σ.r with tx := tv, next := σ.r.next + k, need := σ.r.need - k }, tx := σ.tx ++ sv.data.toList } ++ R) w' ∧ Ch (fun b => b = σ.g ∨ σ.r.tx.ownBlock = some b) w w'
set_option maxHeartbeats 4000000 in
theorem take_m (M : Mem B w0 (σ.L B ++ R) w) {rb xb : Nat} {hh : Int} {s : ByteArray} {ksv : Value} (hrb : Blk w rb 45 #[.pointer (some ⟨σ.g, 0, none⟩)]) (hxb : Blk w xb 229 #[.int .i64 hh, .string s, ksv]) {rn k : Nat} (hr : σ.r.rest = (rn : Int)) (hk : rn + k ≤ s.size) (hs : s.size ≤ 16) (hl : σ.tx.length ≤ 1000000) (hx0 : 0 ≤ σ.r.next) (hx1 : σ.r.next ≤ 1000000) (hn0 : (k : Int) ≤ σ.r.need) (hn1 : σ.r.need ≤ 1000000) :
    Calls Tryz.prog 130 #[.int .i64 (k : Int), .pointer (some ⟨rb, 0, none⟩), .pointer (some ⟨xb, 0, none⟩)] w (TakeOut B w0 R σ (s.extract rn (rn + k)) k w) := by
  obtain ⟨i0, hi, hz0, hz1, hz2⟩ := info_parts (show (Tryz.prog.info? 5).map (fun i => (i.zero, i.size, i.bytes)) = some (some (Value.int .u8 0), 1, 1) by kernel_rfl)
  obtain ⟨av, cap, htv, _⟩ := own_slice (m_tx M)
  have hsl : ∀ W : World, (Instr.sliceAt 9 (.string s) (some (.int .i64 (rn : Int))) (some (.int .i64 ((rn : Int) + (k : Int)))) none).run Tryz.prog W = .ok (.string (s.extract rn (rn + k))) W := fun W => by
    have t := run_slice_string (P := Tryz.prog) W 9 s .i64 .i64 (rn : Int) ((rn : Int) + (k : Int)) Tryz.underlying9 (by omega) (by omega) (by omega)
    rw [show ((rn : Int) + (k : Int)).toNat = rn + k by omega, Int.toNat_natCast] at t
    rw [run_sliceAt_string _ _ _ _ _ _ Tryz.underlying9]
    exact t
  have hsz : (s.extract rn (rn + k)).size = k := by rw [ByteArray.size_extract]; omega
  obtain ⟨sv, hsv⟩ : ∃ x, x = s.extract rn (rn + k) := ⟨_, rfl⟩
  rw [← hsv] at hsl hsz ⊢
  have HSZ := hid hsz
  have HTV := hid htv
  have HM := hid M
  have HR := hid hrb
  have HX := hid hxb
  have hgr : rb ≠ σ.g := hrb.ne (m_rd M) (by decide)
  have hgx : xb ≠ σ.g := hxb.ne (m_rd M) (by decide)
  have hro : ¬ σ.r.tx.ownBlock = some rb := fun e => hrb.own (m_tx M) (by decide) e
  have hgo : ¬ σ.r.tx.ownBlock = some σ.g := fun e => (m_rd M).own (m_tx M) (by decide) e
  have HGO := hid hgo
  have HRO := hid hro
  have hgr2 := Ne.symm hgr
  have hrl := hrb.lt
  have r0 : w.cell? ⟨rb, 0, none⟩ = some (.pointer (some ⟨σ.g, 0, none⟩)) := hrb.cell 0
  have x1 : w.cell? ⟨xb, 1, none⟩ = some (.string s) := hxb.cell 1
  have a14 : w.cell? ⟨σ.g, 34, none⟩ = some (.slice av σ.tx.length cap) := ((m_rd M).cell 34).trans (by rw [← htv]; rfl)
  have a30 : w.cell? ⟨σ.g, 30, none⟩ = some (.int .i64 (rn : Int)) := ((m_rd M).cell 30).trans (by rw [← hr]; rfl)
  clear M hrb hxb hsz htv hsv hgo hro
  obtain ⟨S, hS⟩ : ∃ S : Nat → Prop, ∀ k, S k ↔ k = rb := ⟨_, fun _ => Iff.rfl⟩
  have hSp : Mix.Has S rb := (hS _).2 rfl
  have HSS := hid hS
  clear hS
  go_enter Tryz.func130, Tryz.ntmps130
  go_wp2_with fail
  refine Mix.wp_region_mix S (fun i => ([4, 0, 0, 0, 0, 0, 0, 0, 0, 0, 0, 0, 0, 0, 0, 0, 0, 0, 3, 0, 0, 2] : List Nat).getD i 0) [0, 1, 2, 3, 4, 5, 6, 7, 8, 9, 10, 11, 12, 13, 14, 15, 16, 17, 18, 19, 20, 21] (by kernel_rfl) (by kernel_rfl) ?_
  repeat (first | (refine Mix.mix_q (by simp only [List.getElem?_toArray, List.getElem?_cons_zero, List.getElem?_cons_succ]; exact rfl) rfl ?_; go_big_quiet_step (fail); refine wpQuiet_nil ?_) | (refine Mix.mix_p (by simp only [List.getElem?_toArray, List.getElem?_cons_zero, List.getElem?_cons_succ]; exact rfl) rfl rfl ?_; go_big_quiet_step (fail); refine wpQuiet_nil ?_) | (refine Mix.mix_s (by simp only [List.getElem?_toArray, List.getElem?_cons_zero, List.getElem?_cons_succ]; exact rfl) rfl rfl ?_; go_big_quiet_step (fail); refine wpQuiet_nil ?_))
  refine Mix.mix_a (by simp only [List.getElem?_toArray, List.getElem?_cons_zero, List.getElem?_cons_succ]; exact rfl) rfl fun W2 hW2 => ?_
  obtain ⟨k2, rfl⟩ := hW2
  refine wpList_app_str _ rfl (.tmp 8) (.tmp 21) 27 9 rfl B 5 i0 Tryz.underlying27 Tryz.underlying9 hi hz0 hz1 hz2 _ _ _ rfl (((Ch.refl (fun _ => False) w).drewN k2).own (HTV.out ▸ m_tx HM.out) (fun _ _ => id)) sv rfl ?c1 ?c2 ?c3
  case c1 => have := HSZ.out; omega
  case c2 => exact HM.out.bz
  case c3 =>
    intro v' w2 hown hgrow hfresh hnil
    have C2 := hid (((Ch.refl (fun b => σ.r.tx.ownBlock = some b) w).drewN k2).grown hgrow (fun k hk _ => by rw [HTV.out]; exact hk))
    have HOW := hid hown
    have HFR := hid (show Fresh (w.drewN k2) σ.r.tx v' from by rw [HTV.out]; exact hfresh)
    obtain ⟨av', cap', hv', _⟩ := own_slice hown
    subst hv'
    clear hown hgrow hfresh hnil
    have R2 := hid (C2.out.blk HR.out HRO.out)
    have G2 := hid (C2.out.blk (m_rd HM.out) HGO.out)
    have b34 : w2.cell? ⟨σ.g, 34, none⟩ = some (.slice av σ.tx.length cap) := (G2.out.cell 34).trans (by rw [← HTV.out]; rfl)
    have f34 := G2.out.free 34
    go_wp2_with fail
    refine ⟨fun j hj => by rw [(HSS.out j).1 hj]; exact C2.out.block _ hrl HRO.out, ?_⟩
    repeat (first | (refine Mix.mix_q (by simp only [List.getElem?_toArray, List.getElem?_cons_zero, List.getElem?_cons_succ]; exact rfl) rfl ?_; go_big_quiet_step (fail); refine wpQuiet_nil ?_) | (refine Mix.mix_p (by simp only [List.getElem?_toArray, List.getElem?_cons_zero, List.getElem?_cons_succ]; exact rfl) rfl rfl ?_; go_big_quiet_step (fail); refine wpQuiet_nil ?_) | (refine Mix.mix_s (by simp only [List.getElem?_toArray, List.getElem?_cons_zero, List.getElem?_cons_succ]; exact rfl) rfl rfl ?_; go_big_quiet_step (fail); refine wpQuiet_nil ?_))
    refine Mix.mix_e (by simp only [List.getElem?_toArray, List.getElem?_cons_zero, List.getElem?_cons_succ]; exact rfl) rfl fun W3 hW3 => ?_
    obtain ⟨k3, rfl⟩ := hW3
    go_wp2_with fail
    intro k4
    refine at_world fun W4 hW4 => ?_
    obtain ⟨tv, htv⟩ : ∃ x, x = Value.slice av' (σ.tx.length + sv.size) cap' := ⟨_, rfl⟩
    rw [← htv] at HOW HFR
    have B4 := hid (show Blk W4 σ.g 111 (Rd.cells { σ.r with tx := tv }) from by rw [hW4, htv]; exact Blk.as (((G2.out.drewN k3).put 34 _).drewN k4) (by kernel_rfl))
    have C24 := hid (show Ch (fun b => b = σ.g) w2 W4 from by rw [hW4]; exact (((Ch.refl (fun b => b = σ.g) w2).drewN k3).set (fun _ => rfl) _).drewN k4)
    have R4 := hid (C24.out.blk R2.out hgr)
    have O4 := hid (C24.out.own HOW.out (fun j hj e => G2.out.own HOW.out (by decide) (by rw [hj, e])))
    have G4 := hid (B4.out.own O4.out (by decide))
    have rl4 := R4.out.lt
    clear hW4 htv b34 f34
    have r0 : W4.cell? ⟨rb, 0, none⟩ = some (.pointer (some ⟨σ.g, 0, none⟩)) := R4.out.cell 0
    have c35 : W4.cell? ⟨σ.g, 35, none⟩ = some (.int .i64 σ.r.need) := B4.out.cell 35
    have c36 : W4.cell? ⟨σ.g, 36, none⟩ = some (.int .i64 σ.r.next) := B4.out.cell 36
    have f35 := B4.out.free 35
    have f36 := B4.out.free 36
    go_wp2_with fail
    refine Mix.wp_region_mix S (fun i => ([0, 4, 0, 0, 0, 0, 0, 0, 0, 0, 0, 0, 1, 1, 0, 0, 3, 0, 0, 2] : List Nat).getD i 0) [0, 1, 2, 3, 4, 5, 6, 7, 8, 9, 10, 11, 12, 13, 14, 15, 16, 17, 18, 19] (by kernel_rfl) (by kernel_rfl) ?_
    repeat (first | (refine Mix.mix_q (by simp only [List.getElem?_toArray, List.getElem?_cons_zero, List.getElem?_cons_succ]; exact rfl) rfl ?_; go_big_quiet_step (fail); refine wpQuiet_nil ?_) | (refine Mix.mix_p (by simp only [List.getElem?_toArray, List.getElem?_cons_zero, List.getElem?_cons_succ]; exact rfl) rfl rfl ?_; go_big_quiet_step (fail); refine wpQuiet_nil ?_) | (refine Mix.mix_s (by simp only [List.getElem?_toArray, List.getElem?_cons_zero, List.getElem?_cons_succ]; exact rfl) rfl rfl ?_; go_big_quiet_step (fail); refine wpQuiet_nil ?_))
    refine Mix.mix_a (by simp only [List.getElem?_toArray, List.getElem?_cons_zero, List.getElem?_cons_succ]; exact rfl) rfl fun W5 hW5 => ?_
    obtain ⟨k5, rfl⟩ := hW5
    go_wp2_with fail
    refine ⟨fun j hj => by rw [(HSS.out j).1 hj]; exact (((Ch.refl (fun b => b = σ.g) W4).drewN k5).set (fun _ => rfl) _).block _ rl4 hgr, ?_⟩
    repeat (first | (refine Mix.mix_q (by simp only [List.getElem?_toArray, List.getElem?_cons_zero, List.getElem?_cons_succ]; exact rfl) rfl ?_; go_big_quiet_step (fail); refine wpQuiet_nil ?_) | (refine Mix.mix_p (by simp only [List.getElem?_toArray, List.getElem?_cons_zero, List.getElem?_cons_succ]; exact rfl) rfl rfl ?_; go_big_quiet_step (fail); refine wpQuiet_nil ?_) | (refine Mix.mix_s (by simp only [List.getElem?_toArray, List.getElem?_cons_zero, List.getElem?_cons_succ]; exact rfl) rfl rfl ?_; go_big_quiet_step (fail); refine wpQuiet_nil ?_))
    refine Mix.mix_e (by simp only [List.getElem?_toArray, List.getElem?_cons_zero, List.getElem?_cons_succ]; exact rfl) rfl fun W6 hW6 => ?_
    obtain ⟨k6, rfl⟩ := hW6
    go_wp2_with fail
    intro k7
    refine at_world fun W7 hW7 => ?_
    have B7 := hid (show Blk W7 σ.g 111 (Rd.cells { σ.r with tx := tv, next := σ.r.next + (k : Int), need := σ.r.need - (k : Int) }) from by rw [hW7]; exact Blk.as (((((B4.out.drewN k5).put 36 _).drewN k6).put 35 _).drewN k7) (by kernel_rfl))
    have C47 := hid (show Ch (fun b => b = σ.g) W4 W7 from by rw [hW7]; exact (((((Ch.refl (fun b => b = σ.g) W4).drewN k5).set (fun _ => rfl) _).drewN k6).set (fun _ => rfl) _).drewN k7)
    have O7 := hid (C47.out.own O4.out (fun j hj e => G4.out (by rw [hj, e])))
    clear hW7
    go_end0
    have CC : Ch (fun b => b = σ.g ∨ σ.r.tx.ownBlock = some b) w W7 := (C2.out.mono (fun _ _ h => .inr h)).trans (C24.out.trans C47.out (fun _ _ h => h)) (fun _ _ h => .inl h)
    have eL : (σ.tx ++ sv.data.toList).length = σ.tx.length + sv.size := by rw [List.length_append, Array.length_toList]; rfl
    refine ⟨rfl, tv, ?_, CC⟩
    exact HM.out.upd2 (i := 8) (j := 0) (rowR B 5 1 (σ.tx ++ sv.data.toList).length tv (txCells (σ.tx ++ sv.data.toList))) (blkR σ.g 111 (Rd.cells { σ.r with tx := tv, next := σ.r.next + (k : Int), need := σ.r.need - (k : Int) })) rfl rfl (by decide) CC (fun j _ e => e.symm) (show W7.ownsRow B 5 1 tv (σ.tx ++ sv.data.toList).length (txCells (σ.tx ++ sv.data.toList)) from by rw [eL, txc_app]; exact O7.out) B7.out (fun j e => by
      rcases HFR.out with h | h
      · exact .inl (h.symm.trans e)
      · exact .inr (Nat.le_trans ((Ch.refl (fun _ => False) w).drewN k2).size (h j e))) (fun j e => e)
end
end Go.Proofs.YtjcdknhejcbpiaaGreat
namespace Go.Proofs.YtjcdknhejcbpiaaGreat
open Go.RowKit
set_option linter.unusedVariables false
set_option linter.unusedSimpArgs false
set_option linter.unusedSectionVars false
set_option maxRecDepth 100000
/-- string(b) of a slice of the call's own. -/
theorem conv_tx {w : World} {B : Nat} {v : Value} {l : List UInt8} (h : w.ownsRow B 5 1 v l.length (txCells l)) : (convert 27 9 v).run Tryz.prog w = .ok (.string ⟨l.toArray⟩) w := by
  obtain ⟨av, cap, rfl, _⟩ := own_slice h
  rcases Nat.eq_zero_or_pos l.length with h0 | h0
  · have hl : l = [] := List.eq_nil_of_length_eq_zero h0
    subst hl
    cases av with
    | none => exact Lib.run_convert_nil_bytes w _ _ 5 cap Tryz.underlying27 Tryz.underlying5 Tryz.underlying9
    | some a => exact run_convert_bytes_back w _ _ 5 a cap [] Tryz.underlying27 Tryz.underlying5 Tryz.underlying9 (fun j hj => absurd hj (Nat.not_lt_zero _))
  · obtain ⟨g, cap', hv, _, _, _, _⟩ := own_form h h0
    injection hv with h1
    subst h1
    refine run_convert_bytes_back w _ _ 5 _ cap l Tryz.underlying27 Tryz.underlying5 Tryz.underlying9 (fun j hj => ?_)
    exact h.cells (g := g) rfl j _ (by unfold txCells; rw [List.getElem?_map, List.getElem?_eq_getElem hj]; rfl)
/-- A change of what is no part of the memory. -/
theorem mem_off {B : Nat} {w0 W W' : World} {L : List Res} {fp : Nat → Prop} (h : Mem B w0 L W) (c : Ch fp W W') (hf : ∀ k, fp k → B ≤ k ∧ ∀ (i : Nat) (r : Res), L[i]? = some r → ¬ r.foot k) : Mem B w0 L W' :=
  ⟨fun i r hi => r.stable (h.each i r hi) c (fun k hk e => (hf k e).2 i r hi hk), h.apart, h.low, h.bel.trans (c.belowB h.bz (fun k _ e => (hf k e).1)), Nat.le_trans h.bz c.size⟩
section
variable {B : Nat} {w0 w : World} {R : List Res} {σ : RS} {y : Ly} {n m : Nat}
set_option maxHeartbeats 4000000 in
theorem taken_read (M : Mem B w0 (σ.L B ++ R) w) (hop : σ.r.op.k = 7) :
    Calls Tryz.prog 105 #[.pointer (some ⟨σ.g, 0, none⟩)] w fun e w' => e = .returned (.int .u64 0) ∧ Mem B w0 (RS.L B { σ with r := σ.r.fin { RsV.zero with s := ⟨σ.tx.toArray⟩ }, tx := [] } ++ R) w' := by
  have HM := hid M
  obtain ⟨av, cap, htv, _⟩ := own_slice (m_tx M)
  have hcv := conv_tx (m_tx M)
  rw [htv] at hcv
  have a34 : w.cell? ⟨σ.g, 34, none⟩ = some (.slice av σ.tx.length cap) := ((m_rd M).cell 34).trans (by rw [← htv]; rfl)
  have lg := (m_rd M).lt
  obtain ⟨s, hs⟩ : ∃ s : ByteArray, s = ⟨σ.tx.toArray⟩ := ⟨_, rfl⟩
  rw [← hs] at hcv ⊢
  have HOP := hid hop
  clear M htv hs hop
  go_enter Tryz.func105, Tryz.ntmps105
  have a3 : w.cell? ⟨σ.g, 3, none⟩ = some (.int .u8 7) := ((m_rd HM.out).cell 3).trans (by rw [← HOP.out]; rfl)
  go_wp2_with fail
  refine calls_world fun W1 hW1 => ?_
  have M1 := hid (show Mem B w0 (σ.L B ++ R) W1 from by rw [hW1]; exact HM.out.alloc _)
  clear hW1
  refine (rend_any σ.g σ.r { RsV.zero with s := s } W1 (m_rd M1.out)).mono ?_
  intro e w2 h2
  have M2 := hid (m_fin M1.out h2 rfl)
  obtain ⟨rfl, _⟩ := h2
  go_wp2_with fail
  go_ret
  exact ⟨rfl, M2.out⟩
/-- A cursor moves. -/
theorem m_scur (M : Mem B w0 (σ.L B ++ R) w) {k : Nat} {t : Snp} (hk : σ.sl[k]? = some (some t)) (c : Int) : Mem B w0 (RS.L B { σ with sl := σ.sl.set k (some { t with cu := c }) } ++ R) (w.setCell ⟨t.g, 9, none⟩ (.int .i64 c)) :=
  M.upd (i := 1) (slotsR B σ.lb (σ.sl.set k (some { t with cu := c }))) rfl ((Ch.refl (fun b => b = t.g) w).set (fun _ => rfl) _) (fun _ _ e => .inr ⟨k, t, hk, .inl e⟩) (slots_cur c (m_sl M) hk) (fun i e => by
    rcases e with e | ⟨j, s, hj, e⟩
    · exact .inl (.inl e)
    · rcases sset hj with ⟨rfl, e2⟩ | ⟨_, hj⟩
      · injection e2 with e2
        subst e2
        exact .inl (.inr ⟨j, t, hk, e⟩)
      · exact .inl (.inr ⟨j, s, hj, e⟩))
set_option maxHeartbeats 4000000 in
theorem taken_next (M : Mem B w0 (σ.L B ++ R) w) (O : σ.Ok y n m) (hop : σ.r.op.k = 12) {k : Nat} {t : Snp} (hsl : σ.r.op.sl = (k : Int)) (hk : σ.sl[k]? = some (some t)) :
    Calls Tryz.prog 105 #[.pointer (some ⟨σ.g, 0, none⟩)] w fun e w' => e = .returned (.int .u64 0) ∧ Mem B w0 (RS.L B { σ with sl := σ.sl.set k (some { t with cu := σ.r.next }), r := σ.r.fin { RsV.zero with at' := σ.r.next, s := ⟨σ.tx.toArray⟩ }, tx := [] } ++ R) w' := by
  have HM := hid M
  obtain ⟨av, cap, htv, _⟩ := own_slice (m_tx M)
  have hcv := conv_tx (m_tx M)
  rw [htv] at hcv
  have a34 : w.cell? ⟨σ.g, 34, none⟩ = some (.slice av σ.tx.length cap) := ((m_rd M).cell 34).trans (by rw [← htv]; rfl)
  have lg := (m_rd M).lt
  obtain ⟨s, hs⟩ : ∃ s : ByteArray, s = ⟨σ.tx.toArray⟩ := ⟨_, rfl⟩
  rw [← hs] at hcv ⊢
  have hkn : k < n := by rw [← O.nl]; exact (List.getElem?_eq_some_iff.1 hk).1
  have HO := hid O
  have HK := hid hk
  have HOP := hid hop
  have HSL := hid hsl
  have d1 : decide (k < n) = true := decide_eq_true hkn
  have d2 : decide ((k : Int) < (n : Int)) = true := decide_eq_true (by omega)
  clear M O htv hs hop hsl hk
  go_enter Tryz.func105, Tryz.ntmps105
  have a3 : w.cell? ⟨σ.g, 3, none⟩ = some (.int .u8 12) := ((m_rd HM.out).cell 3).trans (by rw [← HOP.out]; rfl)
  go_wp2_with fail
  refine at_world fun W1 hW1 => ?_
  have M1 := hid (show Mem B w0 (σ.L B ++ R) W1 from by rw [hW1]; exact HM.out.alloc _)
  have X1 := hid (show Blk W1 w.heap.size 41 #[.int .i64 0, .int .i64 0, .int .i64 0, .int .i64 0, .int .u8 0, .string s, .int .i64 0, .int .i64 0, .int .i64 0, .int .u8 0, .int .i64 0, .int .i64 0, .slice none 0 0] from by rw [hW1]; exact Blk.new w _ _)
  have ngx : ∀ (t : Snp), SnpM B W1 t → t.g ≠ w.heap.size := fun t ht => ht.b.ne X1.out (by decide)
  have ntg := ngx t ((m_sl M1.out).s k t HK.out)
  clear hW1 hcv a34 a3 ngx
  have a2 : W1.cell? ⟨σ.g, 2, none⟩ = some (.slice (some ⟨σ.lb, 0, none⟩) n n) := ((m_rd M1.out).cell 2).trans (by rw [← HO.out.sl]; rfl)
  have a4 : W1.cell? ⟨σ.g, 4, none⟩ = some (.int .i64 (k : Int)) := ((m_rd M1.out).cell 4).trans (by rw [← HSL.out]; rfl)
  have a36 : W1.cell? ⟨σ.g, 36, none⟩ = some (.int .i64 σ.r.next) := (m_rd M1.out).cell 36
  have l0 : W1.cell? ⟨σ.lb, k, none⟩ = some (pinV (sptr (some t))) := ((m_sl M1.out).b.cell k).trans (pinsA_at (by rw [List.getElem?_map, HK.out]; rfl))
  have l1 : W1.cell? ⟨σ.lb, k, none⟩ = some (.pointer (some ⟨t.g, 0, none⟩)) := l0
  clear l0
  have s9 : W1.cell? ⟨t.g, 9, none⟩ = some (.int .i64 t.cu) := ((m_sl M1.out).s k t HK.out).b.cell 9
  have sf9 := ((m_sl M1.out).s k t HK.out).b.free 9
  refine Mix.wp_region_mix (fun _ => True) (fun i => ([0, 0, 0, 0, 0, 0, 0, 0, 0, 0, 0, 0, 0, 0, 0, 0, 0, 2] : List Nat).getD i 0) [0, 1, 2, 3, 4, 5, 6, 7, 8, 9, 10, 11, 12, 13, 14, 15, 16, 17] (by kernel_rfl) (by kernel_rfl) ?_
  repeat (first | (refine Mix.mix_q (by simp only [List.getElem?_toArray, List.getElem?_cons_zero, List.getElem?_cons_succ]; exact rfl) rfl ?_; go_big_quiet_step (fail); refine wpQuiet_nil ?_) | (refine Mix.mix_p (by simp only [List.getElem?_toArray, List.getElem?_cons_zero, List.getElem?_cons_succ]; exact rfl) rfl rfl ?_; go_big_quiet_step (fail); refine wpQuiet_nil ?_) | (refine Mix.mix_s (by simp only [List.getElem?_toArray, List.getElem?_cons_zero, List.getElem?_cons_succ]; exact rfl) rfl rfl ?_; go_big_quiet_step (fail); refine wpQuiet_nil ?_))
  refine Mix.mix_e (by simp only [List.getElem?_toArray, List.getElem?_cons_zero, List.getElem?_cons_succ]; exact rfl) rfl fun W2 hW2 => ?_
  obtain ⟨k2, rfl⟩ := hW2
  go_wp2_with fail
  intro k3
  refine at_world fun W4 hW4 => ?_
  have M4 := hid (show Mem B w0 (RS.L B { σ with sl := σ.sl.set k (some { t with cu := σ.r.next }) } ++ R) W4 from by rw [hW4]; exact (m_scur (M1.out.drewN k2) HK.out σ.r.next).drewN k3)
  have X4 := hid (show Blk W4 w.heap.size 41 #[.int .i64 0, .int .i64 0, .int .i64 0, .int .i64 0, .int .u8 0, .string s, .int .i64 0, .int .i64 0, .int .i64 0, .int .u8 0, .int .i64 0, .int .i64 0, .slice none 0 0] from by rw [hW4]; exact (((X1.out.drewN k2).far (Ne.symm ntg) _).drewN k3))
  clear hW4 a2 a4 a36 l1 s9 sf9
  have a36 : W4.cell? ⟨σ.g, 36, none⟩ = some (.int .i64 σ.r.next) := (m_rd M4.out).cell 36
  have x0 : W4.cell? ⟨w.heap.size, 0, none⟩ = some (.int .i64 0) := X4.out.cell 0
  have x1 : W4.cell? ⟨w.heap.size, 1, none⟩ = some (.int .i64 0) := X4.out.cell 1
  have x2 : W4.cell? ⟨w.heap.size, 2, none⟩ = some (.int .i64 0) := X4.out.cell 2
  have x3 : W4.cell? ⟨w.heap.size, 3, none⟩ = some (.int .i64 0) := X4.out.cell 3
  have x4 : W4.cell? ⟨w.heap.size, 4, none⟩ = some (.int .u8 0) := X4.out.cell 4
  have x5 : W4.cell? ⟨w.heap.size, 5, none⟩ = some (.string s) := X4.out.cell 5
  have x6 : W4.cell? ⟨w.heap.size, 6, none⟩ = some (.int .i64 0) := X4.out.cell 6
  have x7 : W4.cell? ⟨w.heap.size, 7, none⟩ = some (.int .i64 0) := X4.out.cell 7
  have x8 : W4.cell? ⟨w.heap.size, 8, none⟩ = some (.int .i64 0) := X4.out.cell 8
  have x9 : W4.cell? ⟨w.heap.size, 9, none⟩ = some (.int .u8 0) := X4.out.cell 9
  have x10 : W4.cell? ⟨w.heap.size, 10, none⟩ = some (.int .i64 0) := X4.out.cell 10
  have x11 : W4.cell? ⟨w.heap.size, 11, none⟩ = some (.int .i64 0) := X4.out.cell 11
  have x12 : W4.cell? ⟨w.heap.size, 12, none⟩ = some (.slice none 0 0) := X4.out.cell 12
  have z3 := X4.out.free 3
  have nxg : σ.g ≠ w.heap.size := Nat.ne_of_lt lg
  go_wp2_with fail
  refine calls_world fun W5 hW5 => ?_
  have M5 := hid (show Mem B w0 (RS.L B { σ with sl := σ.sl.set k (some { t with cu := σ.r.next }) } ++ R) W5 from by
    have M0 := m_scur HM.out HK.out σ.r.next
    have hsz : (w.setCell ⟨t.g, 9, none⟩ (.int .i64 σ.r.next)).heap.size = w.heap.size := by simp
    rw [hW5]
    refine mem_off M4.out ((Ch.refl (fun b => b = w.heap.size) W4).set (fun _ => rfl) _) (fun j e => ⟨by rw [e]; exact HM.out.bz, fun i r hi hj => ?_⟩)
    have t := r.lt (M0.each i r hi) j hj
    rw [hsz] at t
    omega)
  clear hW5
  have H5 := m_rd M5.out
  refine (rend_any σ.g σ.r { RsV.zero with at' := σ.r.next, s := s } W5 H5).mono ?_
  intro e w6 h6
  have M6 := hid (m_fin M5.out h6 rfl)
  obtain ⟨rfl, _⟩ := h6
  go_wp2_with fail
  go_ret
  exact ⟨rfl, M6.out⟩
end
end Go.Proofs.YtjcdknhejcbpiaaGreat
