/- Texts XRdU for XPcs, by trim.py. -/
import Derived.Test.YtjcdknhejcbpiaaGreatPb34
namespace Go.Proofs.YtjcdknhejcbpiaaGreat
open Go.RowKit
set_option linter.unusedVariables false
set_option linter.unusedSimpArgs false
set_option linter.unusedSectionVars false
set_option maxRecDepth 100000
def visF (g : Nat) : Value := .func (.func 106) #[.pointer (some ⟨g, 0, none⟩)] #[]
/-- What a visit of a leaf leaves when d bytes are taken. -/
def LeafOut (B : Nat) (w0 : World) (R : List Res) (σ : RS) (k : Nat) (t : Snp) (d : Nat) (tx : List UInt8) (w' : World) : Prop :=
  ((d : Int) < σ.r.need ∧ ∃ tv, Mem B w0 (RS.L B { σ with r := { σ.r with tx := tv, next := σ.r.next + d, need := σ.r.need - d, ph := 12, dv := visF σ.g, at' := t.x.at', rest := σ.r.next + d, base := ⟨0, 0, 0⟩ }, tx := tx } ++ R) w') ∨
  ((d : Int) = σ.r.need ∧ σ.r.op.k = 7 ∧ Mem B w0 (RS.L B { σ with r := Rd.fin { σ.r with next := σ.r.next + d, need := σ.r.need - d } { RsV.zero with s := ⟨tx.toArray⟩ }, tx := [] } ++ R) w') ∨
  ((d : Int) = σ.r.need ∧ σ.r.op.k = 12 ∧ Mem B w0 (RS.L B { σ with sl := σ.sl.set k (some { t with cu := σ.r.next + d }), r := Rd.fin { σ.r with next := σ.r.next + d, need := σ.r.need - d } { RsV.zero with at' := σ.r.next + d, s := ⟨tx.toArray⟩ }, tx := [] } ++ R) w')
def ByteOut (B : Nat) (w0 : World) (R : List Res) (σ : RS) (k : Nat) (t : Snp) (i : Nat) (z : An) (e : Ending) (w' : World) : Prop := e = .returned (.int .u64 (hdl i)) ∧
  ((z.x.h ≠ 0 ∧ ∃ (ci : Nat) (k : Kd) (q : Int), z.x.ks[ci]? = some k ∧ Chosen (fun m => m.b) (z.x.ks.map Kd.m) σ.r.rest ci q ∧ Mem B w0 (RS.L B { σ with r := { σ.r with at' := hdl k.at', rest := q, base := bsK σ.r.base z.x.ks ci } } ++ R) w') ∨
  (z.x.h = 0 ∧ ∃ d rn : Nat, σ.r.rest = (rn : Int) ∧ d = min σ.r.need.toNat (z.x.s.size - rn) ∧ LeafOut B w0 R σ k t d (σ.tx ++ (z.x.s.extract rn (rn + d)).data.toList) w'))
section
variable {B : Nat} {w0 w : World} {R : List Res} {σ : RS} {y : Ly} {n m : Nat}
set_option maxHeartbeats 8000000 in
theorem visitByte_m (M : Mem B w0 (σ.L B ++ R) w) (O : σ.Ok y n m) (P : ArP σ.ns) {tx : List UInt8} (htx : tx.length ≤ 1000000) {i : Nat} {nn : Int} (D : Dn (fun m => m.b) tx σ.ns i nn σ.r.rest σ.r.base) {z : An} (hi : σ.r.at' = hdl i) (hz : σ.ns[i]? = some z)
    {k : Nat} {t : Snp} (hsl : σ.r.op.sl = (k : Int)) (hk : σ.sl[k]? = some (some t)) (hop : σ.r.op.k = 7 ∨ σ.r.op.k = 12) (hl : σ.tx.length ≤ 1000000) (hx : 0 ≤ σ.r.next ∧ σ.r.next ≤ 1000000) (hn : 0 ≤ σ.r.need ∧ σ.r.need ≤ 1000000) :
    Calls Tryz.prog 106 #[.pointer (some ⟨σ.g, 0, none⟩)] w (ByteOut B w0 R σ k t i z) := by
  have zok := P.ok z (List.mem_of_getElem? hz)
  have HV := hid (fun W (hM : Mem B w0 (σ.L B ++ R) W) => visit_m hM O hi hz (Nat.le_trans zok.kl (by decide)))
  have HZ := hid zok
  have HM := hid M
  have HO := hid O
  have HSL := hid hsl
  have HK0 := hid hk
  have HOP := hid hop
  have HL := hid hl
  have HX := hid hx
  have HN := hid hn
  have HBO := hid (D.base_ok htx)
  have HBS := hid (fun h0 => D.bases htx hz h0)
  have HSU := hid (D.sum P hz)
  have lg := (m_rd M).lt
  obtain ⟨⟨hh, s, ks⟩, za, zc⟩ := z
  simp only [Nd.v] at HV
  clear M O P D hi hz htx zok hsl hk hop hl hx hn
  go_enter Tryz.func106, Tryz.ntmps106
  go_wp2_with fail
  refine calls_world fun W1 hW1 => ?_
  have M1 := hid (show Mem B w0 (σ.L B ++ R) W1 from by rw [hW1]; exact HM.out.alloc _)
  have R1 := hid (show Blk W1 w.heap.size 45 #[.pointer (some ⟨σ.g, 0, none⟩)] from by rw [hW1]; exact Blk.new w _ _)
  have L1 := R1.out.lt
  clear hW1
  refine (HV.out W1 M1.out).mono ?_
  rintro e w2 ⟨a, c, hcl, rfl, hin, hc⟩
  have M2 := hid (M1.out.keep hc)
  have R2 := hid (hc.blk R1.out id)
  obtain ⟨kn, hkn⟩ : ∃ x, x = ks.length := ⟨_, rfl⟩
  rw [← hkn] at hcl
  rw [← hkn]
  have HKN := hid hkn
  have HIN := hid (show InP Kd.cells 4 w2 (fun b => W1.heap.size ≤ b) a kn ks from by rw [hkn]; exact hin)
  have HCL := hid hcl
  have lrx : w.heap.size < w2.heap.size := R2.out.lt
  have nrx : w.heap.size ≠ w2.heap.size := Nat.ne_of_lt lrx
  have nrg : σ.g ≠ w.heap.size := Nat.ne_of_lt lg
  clear hin hc HV HM hkn hcl
  by_cases h0 : hh = 0
  · subst h0
    go_wp2_with fail
    refine at_world fun W3 hW3 => ?_
    have M3 := hid (show Mem B w0 (σ.L B ++ R) W3 from by rw [hW3]; exact M2.out.alloc _)
    have R3 := hid (show Blk W3 w.heap.size 45 #[.pointer (some ⟨σ.g, 0, none⟩)] from by rw [hW3]; exact R2.out.alloc _)
    have X3 := hid (show Blk W3 w2.heap.size 229 #[.int .i64 ((0 : Nat) : Int), .string s, .slice a kn c] from by rw [hW3]; exact Blk.new w2 _ _)
    clear hW3
    obtain ⟨rn, hrn⟩ : ∃ rn : Nat, σ.r.rest = (rn : Int) := ⟨σ.r.rest.toNat, by have := HSU.out.1; omega⟩
    obtain ⟨dn, hdn⟩ : ∃ dn : Nat, σ.r.need = (dn : Int) := ⟨σ.r.need.toNat, by have := HN.out.1; omega⟩
    have HRN := hid hrn
    have HDN := hid hdn
    have hss : s.size ≤ 16 := HZ.out.sz
    have hrs : rn ≤ s.size := by
      have t := HSU.out.2
      rw [hrn] at t
      have u : (rn : Int) < (mOf s).b := t
      simp only [mOf] at u
      omega
    obtain ⟨d, hd⟩ : ∃ d, d = min dn (s.size - rn) := ⟨_, rfl⟩
    have hmin := fun W => run_min (P := Tryz.prog) #[3, 3] 3 dn (s.size - rn) W
    rw [← hd, Int.ofNat_sub hrs] at hmin
    have HD := hid hd
    have HSS := hid hss
    have HRS := hid hrs
    have r0 : W3.cell? ⟨w.heap.size, 0, none⟩ = some (.pointer (some ⟨σ.g, 0, none⟩)) := R3.out.cell 0
    have x1 : W3.cell? ⟨w2.heap.size, 1, none⟩ = some (.string s) := X3.out.cell 1
    have a30 : W3.cell? ⟨σ.g, 30, none⟩ = some (.int .i64 (rn : Int)) := ((m_rd M3.out).cell 30).trans (by rw [← hrn]; rfl)
    have a35 : W3.cell? ⟨σ.g, 35, none⟩ = some (.int .i64 (dn : Int)) := ((m_rd M3.out).cell 35).trans (by rw [← hdn]; rfl)
    clear hrn hdn hd
    refine Mix.wp_region_mix (fun _ => True) (fun i => ([0, 0, 0, 0, 0, 0, 0, 0, 0, 0, 0, 0, 0, 0, 2] : List Nat).getD i 0) [0, 1, 2, 3, 4, 5, 6, 7, 8, 9, 10, 11, 12, 13, 14] (by kernel_rfl) (by kernel_rfl) ?_
    repeat (first | (refine Mix.mix_q (by simp only [List.getElem?_toArray, List.getElem?_cons_zero, List.getElem?_cons_succ]; exact rfl) rfl ?_; go_big_quiet_step (fail); refine wpQuiet_nil ?_) | (refine Mix.mix_p (by simp only [List.getElem?_toArray, List.getElem?_cons_zero, List.getElem?_cons_succ]; exact rfl) rfl rfl ?_; go_big_quiet_step (fail); refine wpQuiet_nil ?_) | (refine Mix.mix_s (by simp only [List.getElem?_toArray, List.getElem?_cons_zero, List.getElem?_cons_succ]; exact rfl) rfl rfl ?_; go_big_quiet_step (fail); refine wpQuiet_nil ?_))
    refine Mix.mix_e (by simp only [List.getElem?_toArray, List.getElem?_cons_zero, List.getElem?_cons_succ]; exact rfl) rfl fun W4 hW4 => ?_
    obtain ⟨k4, rfl⟩ := hW4
    go_wp2_with fail
    have hdl' : rn + d ≤ s.size := by have := HD.out; have := HRS.out; omega
    have hdn' : d ≤ dn := by have := HD.out; omega
    have hown := hid (R3.out.own (m_tx M3.out) (by decide))
    refine (take_m (M3.out.drewN k4) (R3.out.drewN k4) (X3.out.drewN k4) (rn := rn) (k := d) HRN.out hdl' HSS.out HL.out HX.out.1 HX.out.2 (by rw [HDN.out]; omega) HN.out.2).mono ?_
    rintro e w5 ⟨rfl, tv, hM5, hC5⟩
    have M5 := hid hM5
    have R5 := hid (hC5.blk (R3.out.drewN k4) (by
      rintro (e | e)
      · exact nrg e.symm
      · exact hown.out e))
    clear hM5 hC5 r0 x1 a30 a35 hmin
    go_wp2_with fail
    intro k6
    refine at_world fun W6 hW6 => ?_
    have M6 := hid (M5.out.drewN k6)
    have R6 := hid (R5.out.drewN k6)
    rw [← hW6] at M6 R6
    clear hW6
    have G6 := hid (m_rd M6.out)
    have S6 := hid (m_sl M6.out)
    have r0 : W6.cell? ⟨w.heap.size, 0, none⟩ = some (.pointer (some ⟨σ.g, 0, none⟩)) := R6.out.cell 0
    by_cases hdd : d = dn
    · have a35 : W6.cell? ⟨σ.g, 35, none⟩ = some (.int .i64 0) := (G6.out.cell 35).trans (by
        show some (Value.int .i64 (σ.r.need - (d : Int))) = _
        rw [HDN.out, hdd, Int.sub_self])
      have HDD := hid hdd
      clear hdd hdl' hdn'
      go_wp2_with fail
      rcases HOP.out with h7 | h12
      · have T := taken_read M6.out h7
        refine T.mono ?_
        rintro e w8 ⟨rfl, hM8⟩
        have M8 := hid hM8
        have H7 := hid h7
        clear hM8 h7 T
        go_wp2_with fail
        go_ret
        exact ⟨rfl, .inr ⟨rfl, d, rn, HRN.out, by rw [HDN.out]; exact HD.out, .inr (.inl ⟨by rw [HDN.out, HDD.out], H7.out, M8.out⟩)⟩⟩
      · have O := HO.out
        have T := taken_next (y := y) (n := n) (m := m) M6.out ⟨O.sl, O.nl, O.n8, O.cl, O.hm, O.mn, O.pl, O.stf, O.h23, O.ed, O.y0, O.y1, O.vs, O.lg, O.f0, O.fs⟩ h12 HSL.out HK0.out
        refine T.mono ?_
        rintro e w8 ⟨rfl, hM8⟩
        have M8 := hid hM8
        have H12 := hid h12
        clear hM8 h12 T O
        go_wp2_with fail
        go_ret
        exact ⟨rfl, .inr ⟨rfl, d, rn, HRN.out, by rw [HDN.out]; exact HD.out, .inr (.inr ⟨by rw [HDN.out, HDD.out], H12.out, M8.out⟩)⟩⟩
    · obtain ⟨rem, hrem⟩ : ∃ rem : Nat, dn = rem + 1 + d := ⟨dn - d - 1, by omega⟩
      have a35 : W6.cell? ⟨σ.g, 35, none⟩ = some (.int .i64 ((rem : Int) + 1)) := (G6.out.cell 35).trans (by
        show some (Value.int .i64 (σ.r.need - (d : Int))) = _
        rw [HDN.out, show (dn : Int) - (d : Int) = (rem : Int) + 1 by omega])
      have e1 : ((rem : Int) + 1 == 0) = false := by rw [beq_eq_false_iff_ne]; omega
      have hkn : k < n := by rw [← HO.out.nl]; exact (List.getElem?_eq_some_iff.1 HK0.out).1
      have e2 : decide (k < n) = true := decide_eq_true hkn
      have e3 : decide ((k : Int) < (n : Int)) = true := decide_eq_true (by omega)
      have a2 : W6.cell? ⟨σ.g, 2, none⟩ = some (.slice (some ⟨σ.lb, 0, none⟩) n n) := (G6.out.cell 2).trans (by rw [← HO.out.sl]; rfl)
      have a4 : W6.cell? ⟨σ.g, 4, none⟩ = some (.int .i64 (k : Int)) := (G6.out.cell 4).trans (by rw [← HSL.out]; rfl)
      have a36 : W6.cell? ⟨σ.g, 36, none⟩ = some (.int .i64 (σ.r.next + (d : Int))) := G6.out.cell 36
      have l0 : W6.cell? ⟨σ.lb, k, none⟩ = some (pinV (sptr (some t))) := (S6.out.b.cell k).trans (pinsA_at (by rw [List.getElem?_map, HK0.out]; rfl))
      have l1 : W6.cell? ⟨σ.lb, k, none⟩ = some (.pointer (some ⟨t.g, 0, none⟩)) := l0
      have HLT := hid (show (d : Int) < σ.r.need from by rw [HDN.out]; omega)
      clear l0 hrem hdd hdl' hdn'
      go_wp2_with fail
      refine Mix.wp_region_mix (fun _ => True) (fun i => ([0, 0, 0, 0, 0, 0, 0, 0, 0, 0, 0, 0, 0, 0, 0, 0, 0, 0, 2] : List Nat).getD i 0) [0, 1, 2, 3, 4, 5, 6, 7, 8, 9, 10, 11, 12, 13, 14, 15, 16, 17, 18] (by kernel_rfl) (by kernel_rfl) ?_
      repeat (first | (refine Mix.mix_q (by simp only [List.getElem?_toArray, List.getElem?_cons_zero, List.getElem?_cons_succ]; exact rfl) rfl ?_; go_big_quiet_step (fail); refine wpQuiet_nil ?_) | (refine Mix.mix_p (by simp only [List.getElem?_toArray, List.getElem?_cons_zero, List.getElem?_cons_succ]; exact rfl) rfl rfl ?_; go_big_quiet_step (fail); refine wpQuiet_nil ?_) | (refine Mix.mix_s (by simp only [List.getElem?_toArray, List.getElem?_cons_zero, List.getElem?_cons_succ]; exact rfl) rfl rfl ?_; go_big_quiet_step (fail); refine wpQuiet_nil ?_))
      refine Mix.mix_e (by simp only [List.getElem?_toArray, List.getElem?_cons_zero, List.getElem?_cons_succ]; exact rfl) rfl fun W7 hW7 => ?_
      obtain ⟨k7, rfl⟩ := hW7
      go_wp2_with fail
      have G7 := m_rd (M6.out.drewN k7)
      have S7 := ((m_sl (M6.out.drewN k7)).s k t HK0.out).b
      have T := rdescend_any σ.g t.g _ _ t.x.at' (σ.r.next + (d : Int)) 106 _ G7 S7 rfl
      refine T.mono ?_
      intro e w8 h8
      have M8 := hid (m_set (M6.out.drewN k7) h8 rfl rfl)
      obtain ⟨rfl, _⟩ := h8
      clear G7 S7 T a2 a4 a36 l1 a35 r0
      go_wp2_with fail
      repeat (first | (refine Mix.mix_q (by simp only [List.getElem?_toArray, List.getElem?_cons_zero, List.getElem?_cons_succ]; exact rfl) rfl ?_; go_big_quiet_step (fail); refine wpQuiet_nil ?_) | (refine Mix.mix_p (by simp only [List.getElem?_toArray, List.getElem?_cons_zero, List.getElem?_cons_succ]; exact rfl) rfl rfl ?_; go_big_quiet_step (fail); refine wpQuiet_nil ?_) | (refine Mix.mix_s (by simp only [List.getElem?_toArray, List.getElem?_cons_zero, List.getElem?_cons_succ]; exact rfl) rfl rfl ?_; go_big_quiet_step (fail); refine wpQuiet_nil ?_))
      intro k9
      go_wp2_with fail
      go_ret
      exact ⟨rfl, .inr ⟨rfl, d, rn, HRN.out, by rw [HDN.out]; exact HD.out, .inl ⟨HLT.out, tv, M8.out.drewN k9⟩⟩⟩
  · have d1 : decide ((hh : Int) > 0) = true := decide_eq_true (by omega)
    have d2 : decide (0 < (hh : Int)) = true := decide_eq_true (by omega)
    have d3 : decide (0 < hh) = true := decide_eq_true (by omega)
    go_wp2_with fail
    refine at_world fun W3 hW3 => ?_
    have M3 := hid (show Mem B w0 (σ.L B ++ R) W3 from by rw [hW3]; exact M2.out.alloc _)
    have R3 := hid (show Blk W3 w.heap.size 45 #[.pointer (some ⟨σ.g, 0, none⟩)] from by rw [hW3]; exact R2.out.alloc _)
    have r0 : W3.cell? ⟨w.heap.size, 0, none⟩ = some (.pointer (some ⟨σ.g, 0, none⟩)) := R3.out.cell 0
    have X3 := hid (show Blk W3 w2.heap.size 229 #[.int .i64 (hh : Int), .string s, .slice a kn c] from by rw [hW3]; exact Blk.new w2 _ _)
    have C3 := hid (show Ch (fun _ => False) w2 W3 from by rw [hW3]; exact (Ch.refl _ w2).alloc _)
    clear hW3
    obtain ⟨rn, hrn⟩ : ∃ rn, rn = σ.r.rest := ⟨_, rfl⟩
    have HRN := hid hrn
    have x0 : W3.cell? ⟨w2.heap.size, 0, none⟩ = some (.int .i64 (hh : Int)) := X3.out.cell 0
    have x1 : W3.cell? ⟨w2.heap.size, 1, none⟩ = some (.string s) := X3.out.cell 1
    have x2 : W3.cell? ⟨w2.heap.size, 2, none⟩ = some (.slice a kn c) := X3.out.cell 2
    have a30 : W3.cell? ⟨σ.g, 30, none⟩ = some (.int .i64 rn) := ((m_rd M3.out).cell 30).trans (by rw [hrn]; rfl)
    clear hrn
    refine Mix.wp_region_mix (fun _ => True) (fun i => ([0, 0, 0, 0, 0, 2, 0, 0, 0, 0, 0, 0, 0] : List Nat).getD i 0) [0, 1, 2, 3, 4, 5, 6, 7, 8, 9, 10, 11, 12] (by kernel_rfl) (by kernel_rfl) ?_
    repeat (first | (refine Mix.mix_q (by simp only [List.getElem?_toArray, List.getElem?_cons_zero, List.getElem?_cons_succ]; exact rfl) rfl ?_; go_big_quiet_step (fail); refine wpQuiet_nil ?_) | (refine Mix.mix_p (by simp only [List.getElem?_toArray, List.getElem?_cons_zero, List.getElem?_cons_succ]; exact rfl) rfl rfl ?_; go_big_quiet_step (fail); refine wpQuiet_nil ?_) | (refine Mix.mix_s (by simp only [List.getElem?_toArray, List.getElem?_cons_zero, List.getElem?_cons_succ]; exact rfl) rfl rfl ?_; go_big_quiet_step (fail); refine wpQuiet_nil ?_))
    refine Mix.mix_e (by simp only [List.getElem?_toArray, List.getElem?_cons_zero, List.getElem?_cons_succ]; exact rfl) rfl fun W4 hW4 => ?_
    obtain ⟨k4, rfl⟩ := hW4
    go_wp2_with fail
    refine calls_world fun W5 hW5 => ?_
    have C5 := hid (show Ch (fun _ => False) W3 W5 from by rw [hW5]; exact (Ch.refl _ W3).drewN k4)
    clear hW5 x0 x1 x2 a30 r0
    have HI5 := hid (HIN.out.keep (S' := fun b => W1.heap.size ≤ b) (C3.out.trans C5.out (fun _ _ h => h)) (fun _ _ _ h => h) (fun _ _ h => h))
    refine (nchild_any (fun b => W1.heap.size ≤ b) ⟨hh, s, ks⟩ a kn c W5 HZ.out h0 HI5.out rn (by rw [HRN.out]; exact HSU.out.1) (by rw [HRN.out]; exact HSU.out.2)).mono ?_
    rintro e w6 ⟨ci, q, rfl, hch, hci, hq, hc⟩
    have HCH := hid hch
    have C6 := hid (C5.out.trans hc (fun _ _ h => h))
    have HI6 := hid (HI5.out.keep (S' := fun b => W1.heap.size ≤ b) hc (fun _ _ _ h => h) (fun _ _ h => h))
    clear hch hc
    go_wp2_with fail
    repeat (first | (refine Mix.mix_q (by simp only [List.getElem?_toArray, List.getElem?_cons_zero, List.getElem?_cons_succ]; exact rfl) rfl ?_; go_big_quiet_step (fail); refine wpQuiet_nil ?_) | (refine Mix.mix_p (by simp only [List.getElem?_toArray, List.getElem?_cons_zero, List.getElem?_cons_succ]; exact rfl) rfl rfl ?_; go_big_quiet_step (fail); refine wpQuiet_nil ?_) | (refine Mix.mix_s (by simp only [List.getElem?_toArray, List.getElem?_cons_zero, List.getElem?_cons_succ]; exact rfl) rfl rfl ?_; go_big_quiet_step (fail); refine wpQuiet_nil ?_))
    intro k7
    refine at_world fun W7 hW7 => ?_
    have C7 := hid (show Ch (fun _ => False) w6 W7 from by rw [hW7]; exact (Ch.refl _ w6).drewN k7)
    clear hW7
    have C37 := hid (C6.out.trans C7.out (fun _ _ h => h))
    have M7 := hid (M3.out.keep C37.out)
    have X7 := hid (C37.out.blk X3.out id)
    have HI7 := hid (HI6.out.keep (S' := fun b => W1.heap.size ≤ b) C7.out (fun _ _ _ h => h) (fun _ _ h => h))
    have x0 : W7.cell? ⟨w2.heap.size, 0, none⟩ = some (.int .i64 (hh : Int)) := X7.out.cell 0
    have x1 : W7.cell? ⟨w2.heap.size, 1, none⟩ = some (.string s) := X7.out.cell 1
    have x2 : W7.cell? ⟨w2.heap.size, 2, none⟩ = some (.slice a kn c) := X7.out.cell 2
    have R7 := hid (C37.out.blk R3.out id)
    have r0 : W7.cell? ⟨w.heap.size, 0, none⟩ = some (.pointer (some ⟨σ.g, 0, none⟩)) := R7.out.cell 0
    have hkk := HKN.out
    have hk4 := hid HZ.out.kl
    obtain ⟨k, hk⟩ : ∃ k, ks[ci]? = some k := ⟨_, List.getElem?_eq_getElem (by omega)⟩
    have HK := hid hk
    clear hk hkk
    go_wp2_with fail
    refine (down_any σ.g σ.r (fun b => W1.heap.size ≤ b) (by omega) (hh : Int) s ks a kn c ci HCL.out q k HK.out (by have h4 : ks.length ≤ 4 := hk4.out; have := HKN.out; omega) HZ.out.km (fun j hj => HBS.out h0 j (show j < ks.length by have := HKN.out; omega)) W7 (m_rd M7.out) HI7.out).mono ?_
    intro e w8 h8
    have M8 := hid (m_set M7.out h8 rfl rfl)
    obtain ⟨rfl, _⟩ := h8
    go_wp2_with fail
    go_ret
    exact ⟨rfl, .inl ⟨h0, ci, k, q, HK.out, HRN.out ▸ HCH.out, M8.out⟩⟩
end
end Go.Proofs.YtjcdknhejcbpiaaGreat
