/- Texts XClone, XCompC, XCompD for XChE, by trim.py. -/
import Derived.Test.YtefpabicgefciaaGreatDb01
import Derived.Test.YtefpabicgefciaaGreatDb08
import Derived.Test.YtefpabicgefciaaGreatDb05
import Derived.WalkMore
namespace Go.Proofs.YtefpabicgefciaaGreat
open Go.RowKit
set_option linter.unusedSimpArgs false
set_option linter.unusedVariables false
/-- What such an append hands back: nothing, or a new block with these cells. -/
def CloneOf (w w' : World) (e : TypeId) (size : Nat) (v' : Value) (m : Nat) (news : List Value) : Prop :=
  (m = 0 ∧ (∃ d, v' = .slice d 0 0) ∧ w' = w) ∨ (0 < m ∧ w'.ownsRow w.heap.size e size v' m news ∧ w.grownBy w' none)
theorem run_append0 {P : Program} (w : World) (t ty e : TypeId) (i : TypeInfo) (z : Value) (size bytes : Nat) (ht : P.underlying t = some (.slice e)) (hi : P.info? e = some i) (hz : i.zero = some z)
    (hsize : i.size = size) (hby : i.bytes = bytes) (hzs : z.cells.size = size) (d ad : Option Addr) (hd : d = none → ad = none) (m c : Nat) (news : List Value) (hl : news.length = m * size)
    (hnews : 0 < m → ∃ b, ad = some b ∧ ∀ j u, news[j]? = some u → w.cell? (b.add j) = some u) (h63 : m ≤ maxLen) (hbytes : m * bytes ≤ 140737488355328) :
    ∃ v' w', (Builtin.append_ #[t, t] ty #[.slice d 0 0, .slice ad m c]).run P w = .ok v' w' ∧ CloneOf w w' e size v' m news := by
  subst hsize
  subst hby
  by_cases hm : m = 0
  · subst hm
    have hn : news = [] := List.eq_nil_of_length_eq_zero (by simpa using hl)
    subst hn
    refine ⟨.slice d 0 0, w, ?_, .inl ⟨rfl, ⟨d, rfl⟩, rfl⟩⟩
    cases ad <;> cases d <;> simp [Builtin.append_, run_underlying ht, sizeOf, typeInfo, hi, Builtin.lenOf, Builtin.firstCells, loadCells, loadCellsFrom, storeCells]
  · obtain ⟨b, rfl, hb⟩ := hnews (by omega)
    obtain ⟨d, rfl⟩ : ∃ d', d = some d' := by
      cases d with
      | none => cases hd rfl
      | some d => exact ⟨d, rfl⟩
    have hsmall : m ≤ 9223372036854775807 := by simp only [maxLen] at h63; omega
    have hr := run_append_grow (P := P) w t ty e i z ht hi hz d 0 0 [] (by simp) (fun j u hu => by simp at hu) b m c news hl hb (by omega) (by omega) (growslice_fits (by omega) (by simpa using hbytes))
    have hge := grownCap_ge w (0 + m) 0 e
    have hcm : grownCap w (0 + m) 0 e ≤ maxLen := grownCap_le_maxLen w (0 + m) 0 e (by simpa using h63)
    refine ⟨_, _, hr, .inr ⟨by omega, ⟨hl, .inr ⟨w.heap.size, _, _, by rw [Nat.zero_add], Nat.le_refl _, heap_alloc_new w.drew _, by rw [Nat.zero_add] at hge ⊢; exact hge, hcm, ?_, ?_⟩⟩, ⟨rfl, rfl, rfl, by simp, fun k hk _ => Below.heap_alloc w.drew _ k hk⟩⟩⟩
    · simp only [Array.size_append, List.size_toArray, size_zeroCells, hzs, hl, List.length_nil, Nat.zero_add, ← Nat.add_mul]
      congr 1
      rw [Nat.zero_add] at hge
      omega
    · simp only [Array.toList_append, List.nil_append]
      rw [← hl]
      simp
theorem wpList_append0 {P : Program} (w : World) {ops : Array Oper} {rest : List Oper} {o : Oper} {a : Act} {Q : Exit → Act → World → Prop} (hgd : o.guard = none) (s x : Operand) (t : TypeId)
    (ho : o.op = .call { callee := .builtin .append, args := #[s, x], argTypes := #[t, t] }) (e : TypeId) (i : TypeInfo) (z : Value) (size bytes : Nat)
    (ht : P.underlying t = some (.slice e)) (hi : P.info? e = some i) (hz : i.zero = some z) (hsize : i.size = size) (hby : i.bytes = bytes) (hzs : z.cells.size = size)
    (d ad : Option Addr) (hd : d = none → ad = none) (m c : Nat) (news : List Value) (hs : a.eval s = .slice d 0 0) (hx : a.eval x = .slice ad m c) (hl : news.length = m * size)
    (hnews : 0 < m → ∃ b, ad = some b ∧ ∀ j u, news[j]? = some u → w.cell? (b.add j) = some u) (h63 : m ≤ maxLen) (hbytes : m * bytes ≤ 140737488355328)
    (h : ∀ v' w', CloneOf w w' e size v' m news → wpList P ops Q rest (a.put o.dst v') w') : wpList P ops Q (o :: rest) a w := by
  refine wpList_plain hgd fun _ hK => ?_
  obtain ⟨v', w', hr, h2⟩ := run_append0 (P := P) w t o.type e i z size bytes ht hi hz hsize hby hzs d ad hd m c news hl hnews h63 hbytes
  unfold Oper.wp execOp
  simp only [ho, resolve, invoke, builtin, Sem.run_bind, Sem.run_pure, Result.andThen_ok, List.map_toArray, List.map_cons, List.map_nil, hs, hx, hr]
  exact hK _ _ (h v' w' h2)
end Go.Proofs.YtefpabicgefciaaGreat
namespace Go.Proofs.YtefpabicgefciaaGreat
open Go.RowKit
set_option linter.unusedVariables false
set_option linter.unusedSimpArgs false
set_option linter.unusedSectionVars false
theorem rdR_mono {B B' xb g : Nat} {l : List Pc} {w : World} (h : (rdR B xb g l).holds w) (hB : B' ≤ B) : (rdR B' xb g l).holds w := by
  obtain ⟨A, c, off, cs, h⟩ := h
  exact ⟨A, c, off, cs, { h with b1 := Nat.le_trans hB h.b1, b2 := Nat.le_trans hB h.b2 }⟩
set_option maxRecDepth 100000 in
set_option maxHeartbeats 1000000 in
theorem read_any (a : Option Addr) (n c : Nat) (xs : List Pc) (w : World) (ha : InPc w a n xs) (hn : n ≤ 5000000) : Calls Tryz.prog 137 #[.slice a n c] w fun e w' => ∃ xb g, e = .returned (.pointer (some ⟨xb, 0, none⟩)) ∧ (rdR w.heap.size xb g xs).holds w' ∧ Ch (fun _ => False) w w' := by
  obtain ⟨i0, hi, hz0, hz1, hz2⟩ := info_parts infoPc
  have HA := hid ha
  have HL := hid ha.1
  clear ha
  go_enter Tryz.func137, Tryz.ntmps137
  go_wp2_with (at_builtin; refine wpList_append0 _ rfl (.tmp 3) (.tmp 4) 77 rfl 128 i0 _ 3 32 Tryz.underlying77 hi hz0 hz1 hz2 rfl (some ⟨w.heap.size, 0, none⟩) a (by simp) n c (pcCells xs) rfl rfl ?c1 ?c2 ?c3 ?c4 ?c5)
  case c1 => rw [pcCells_length, HL.out]
  case c2 =>
    intro h0
    obtain ⟨b, off, rfl, _, _⟩ := HA.out.2 h0
    exact ⟨_, rfl, fun j u hu => by
      have t := inpc_flat HA.out j u hu
      rw [show (⟨b, off, none⟩ : Addr).add j = ⟨b, off + j, none⟩ by simp [Addr.add]]
      exact (((Ch.refl (fun _ => False) w).alloc _).cell (p := ⟨b, off + j, none⟩) (World.block_lt_of_cell? w _ t) id).trans t⟩
  case c3 => unfold maxLen; omega
  case c4 => omega
  case c5 =>
    intro v' w1 hcl
    rcases hcl with ⟨h0, ⟨d, rfl⟩, rfl⟩ | ⟨h0, hown, hgrow⟩
    · have HX := hid (show xs = [] from List.eq_nil_of_length_eq_zero (HL.out.trans h0))
      go_wp2_with fail
      go_ret
      refine ⟨w.heap.size + 1, w.heap.size, by simp, ?_, ((Ch.refl (fun _ => False) w).alloc _).alloc _⟩
      rw [HX.out]
      refine ⟨d, 0, 0, #[], by have := Blk.new (w.alloc (.cells #[] 128)) 312 #[.slice d 0 0, F1v, F2v]; simpa [F1v, F2v] using this, ((Ch.refl (fun _ => False) _).alloc _).blk (Blk.new w 128 #[]) id, by simp, by simp, by simp [pcCells], by simp, by simp⟩
    · rcases hown.2 with ⟨rfl, h1⟩ | ⟨g, cap, cur, rfl, hg, hb, hnc, hcm, hsz, htk⟩
      · omega
      · have HL2 := hid (show xs.length = n from HL.out)
        have C1 := hid (((Ch.refl (fun _ => False) w).alloc (.cells #[] 128)).grown hgrow (fun k hk _ => by simp at hk))
        have HB := hid (show Blk w1 g 128 cur from hb)
        have HG := hid (show w.heap.size ≤ g from Nat.le_trans (by simp) hg)
        have HT := hid htk
        clear hown hgrow hb hg hsz htk
        go_wp2_with fail
        go_ret
        refine ⟨w1.heap.size, g, by simp, ⟨some ⟨g, 0, none⟩, cap, 0, cur, by rw [HL2.out]; exact Blk.new w1 _ _, ((Ch.refl (fun _ => False) _).alloc _).blk HB.out id, by rw [HL2.out]; exact hnc, fun _ => rfl, fun j u hu => ?_, Nat.le_trans (by simp) C1.out.size, HG.out⟩, C1.out.alloc _⟩
        rw [← HT.out, List.getElem?_take] at hu
        split at hu
        · rw [Nat.zero_add, ← hu]
          simp
        · cases hu
end Go.Proofs.YtefpabicgefciaaGreat
namespace Go.Proofs.YtefpabicgefciaaGreat
open Go.RowKit
set_option linter.unusedVariables false
set_option linter.unusedSimpArgs false
set_option linter.unusedSectionVars false
theorem exists_min {P : Nat → Prop} (h : ∃ k, P k) : ∃ k, P k ∧ ∀ j, P j → k ≤ j := by
  obtain ⟨k, hk⟩ := h
  induction k using Nat.strongRecOn with
  | _ k ih =>
    by_cases h : ∃ j, j < k ∧ P j
    · obtain ⟨j, hj, hp⟩ := h
      exact ih j hj hp
    · exact ⟨k, hk, fun j hj => Nat.le_of_not_lt fun hl => h ⟨j, hl, hj⟩⟩
open Classical in
/-- The least number of a property. -/
noncomputable def lst (P : Nat → Prop) : Nat := if h : ∃ k, P k then (exists_min h).choose else 0
theorem lst_spec {P : Nat → Prop} (h : ∃ k, P k) : P (lst P) := by unfold lst; rw [dif_pos h]; exact (exists_min h).choose_spec.1
theorem lst_le {P : Nat → Prop} {k : Nat} (h : P k) : lst P ≤ k := by unfold lst; rw [dif_pos ⟨k, h⟩]; exact (exists_min ⟨k, h⟩).choose_spec.2 k h
theorem done_nil {B xb g : Nat} {w : World} (h : (rdR B xb g []).holds w) : Calls Tryz.prog 138 #[.pointer (some ⟨xb, 0, none⟩)] w fun e w' => e = .returned (.bool true) ∧ w = w' := done_any h (by simp)
theorem done_cons {B xb g : Nat} {p : Pc} {l : List Pc} {w : World} (h : (rdR B xb g (p :: l)).holds w) (hl : (p :: l).length < 5000000) : Calls Tryz.prog 138 #[.pointer (some ⟨xb, 0, none⟩)] w fun e w' => e = .returned (.bool false) ∧ w = w' :=
  (done_any h hl).mono fun e w' h => by simpa using h
theorem field_k (p : Pc) (w : World) : Sem.run Tryz.prog (Instr.field 128 (Value.agg #[.int .u8 p.k, .int .i64 p.n, .string p.s]) 0) w = .ok (.int .u8 p.k) w := by kernel_rfl
/-- What composed stands on. -/
def cdL (B xb xg yb yg : Nat) (v : Value) (la lb out : List Pc) : List Res := [rdR B xb xg la, rdR B yb yg lb, rowR B 128 3 out.length v (pcCells out)]
structure CdI (w : World) (xs ys : List Pc) (xb xg yb yg : Nat) (v : Value) (W : World) (la lb out : List Pc) : Prop where
  hm : Mem w.heap.size w (cdL w.heap.size xb xg yb yg v la lb out) W
  s1 : Dl.Sm la
  s2 : Dl.Sm lb
  eq : out ++ Dl.comp la lb = Dl.comp xs ys
  b1 : out.length + Dl.tot la + Dl.tot lb ≤ 8000000
  b2 : Dl.tot la ≤ 4000000
  b3 : Dl.tot lb ≤ 4000000
set_option maxRecDepth 100000 in
set_option maxHeartbeats 4000000 in
theorem composed_any (a b : Option Addr) (n c m d : Nat) (xs ys : List Pc) (w : World) (ha : InPc w a n xs) (hb : InPc w b m ys) (h1 : Dl.Sm xs) (h2 : Dl.Sm ys) (t1 : Dl.tot xs ≤ 4000000) (t2 : Dl.tot ys ≤ 4000000) :
    Calls Tryz.prog 98 #[.slice a n c, .slice b m d] w fun e w' => ∃ v, e = .returned v ∧ MadeP w.heap.size w' v (Dl.comp xs ys) ∧ Ch (fun _ => False) w w' := by
  obtain ⟨i0, hi, hz0, hz1, hz2⟩ := info_parts infoPc
  have n1 := Dl.len_tot h1.ok
  have n2 := Dl.len_tot h2.ok
  rw [ha.1] at n1
  rw [hb.1] at n2
  have HA := hid ha
  have HB := hid hb
  have H1 := hid h1
  have H2 := hid h2
  have T1 := hid t1
  have T2 := hid t2
  have hn1 : n ≤ 5000000 := by omega
  have hn2 : m ≤ 5000000 := by omega
  clear ha hb h1 h2 n1 n2 t1 t2
  go_enter Tryz.func98, Tryz.ntmps98
  go_wp2_with fail
  go_step3
  go_wp2_with fail
  refine (read_any a n c xs w HA.out hn1).mono ?_
  rintro e w1 ⟨xb, xg, rfl, hx, hc1⟩
  have C1 := hid hc1
  have M1 := hid (show Mem w.heap.size w [rdR w.heap.size xb xg xs] w1 from Mem.cons (Mem.nil (Nat.le_refl _) (Below.refl _ _)) _ hc1 hx (fun k hk => by obtain ⟨_, _, _, _, h⟩ := hx; rcases hk with rfl | rfl; exact h.b1; exact h.b2))
  clear hx hc1
  go_wp2_with fail
  refine (read_any b m d ys w1 (HB.out.keep C1.out (fun _ _ _ _ => id)) hn2).mono ?_
  rintro e w2 ⟨yb, yg, rfl, hy, hc2⟩
  have M2 := hid (show Mem w.heap.size w (cdL w.heap.size xb xg yb yg (.slice none 0 0) xs ys []) w2 from
    (Mem.perm (Mem.cons (Mem.cons M1.out (rdR w.heap.size yb yg ys) hc2 (rdR_mono hy C1.out.size) (fun k hk => by obtain ⟨_, _, _, _, h⟩ := hy; rcases hk with rfl | rfl; exact h.b1; exact h.b2)) (rowR w.heap.size 128 3 0 (.slice none 0 0) []) (Ch.refl _ _) (World.ownsRow_nil _ _ _ _) (fun k hk => by cases hk)) ((List.Perm.swap _ _ _).trans ((List.Perm.cons _ (List.Perm.swap _ _ _)).trans (List.Perm.swap _ _ _)))))
  clear hy hc2 hn1 hn2
  go_wp2_with fail
  go_step3
  go_wp2_with fail
  go_loopw [5] (fun v W => ∃ la lb out, CdI w xs ys xb xg yb yg v W la lb out) (fun v W => lst fun k => ∃ la lb out, CdI w xs ys xb xg yb yg v W la lb out ∧ Dl.tot la + Dl.tot lb = k)
  case atStart => exact ⟨xs, ys, [], M2.out, H1.out, H2.out, rfl, by have := T1.out; have := T2.out; simp; omega, T1.out, T2.out⟩
  case round =>
    obtain ⟨la, lb, out, hI, htot⟩ := lst_spec (P := fun k => ∃ la lb out, CdI w xs ys xb xg yb yg u5 wr la lb out ∧ Dl.tot la + Dl.tot lb = k) (by obtain ⟨la, lb, out, h⟩ := hrel; exact ⟨_, la, lb, out, h, rfl⟩)
    clear hrel
    obtain ⟨oa, oc, hov, _⟩ := own_slice (show wr.ownsRow w.heap.size 128 3 u5 out.length (pcCells out) from hI.hm.each 2 _ rfl)
    subst hov
    have hol : out.length ≤ 8000000 := by have := hI.b1; omega
    have L1 := hid (show la.length ≤ 4000000 from Nat.le_trans (Dl.len_tot hI.s1.ok) hI.b2)
    have L2 := hid (show lb.length ≤ 4000000 from Nat.le_trans (Dl.len_tot hI.s2.ok) hI.b3)
    have M0 := hid hI.hm
    have S1 := hid hI.s1
    have S2 := hid hI.s2
    have EQ := hid hI.eq
    have B1 := hid hI.b1
    have B2 := hid hI.b2
    have B3 := hid hI.b3
    have HT := hid htot
    clear hI htot
    rcases la with _ | ⟨p, la⟩
    · skip
      go_wp2_with fail
      refine (done_nil (M0.out.each 0 _ rfl)).mono ?_
      rintro e _ ⟨rfl, rfl⟩
      have HNA := hid (show ∀ x, ([] : List Pc).head? = some x → x.k ≠ 3 from fun x hx => by simp at hx)
      rcases lb with _ | ⟨q, lb⟩
      · skip
        go_wp2_with fail
        refine (done_nil (M0.out.each 1 _ rfl)).mono ?_
        rintro e _ ⟨rfl, rfl⟩
        have HNB := hid (show ∀ y, ([] : List Pc).head? = some y → y.k ≠ 2 from fun y hy => by simp at hy)
        go_wp2_with fail
        refine (done_nil (M0.out.each 0 _ rfl)).mono ?_
        rintro e _ ⟨rfl, rfl⟩
        have HCE := hid (show Dl.comp [] [] = [] from Dl.comp_end HNA.out HNB.out (by simp))
        go_wp2_with fail
        rw [Exit.noGoto_ret]
        go_ret
        refine ⟨_, rfl, ?_, ⟨M0.out.bel.os, M0.out.bel.tape, M0.out.bel.output, M0.out.bel.size, fun k hk _ => M0.out.bel.block k hk⟩⟩
        have t := EQ.out
        rw [HCE.out, List.append_nil] at t
        rw [← t]
        exact M0.out.each 2 _ rfl
      · have lb1 : lb.length < 4000000 := by have := L2.out; simp at this; omega
        go_wp2_with fail
        refine (done_cons (M0.out.each 1 _ rfl) (by simp; omega)).mono ?_
        rintro e _ ⟨rfl, rfl⟩
        go_wp2_with fail
        refine (head_any (M0.out.each 1 _ rfl) (by omega)).mono ?_
        rintro e v1 ⟨rfl, hc⟩
        have N1 := hid (show Mem w.heap.size w (cdL w.heap.size xb xg yb yg (.slice oa out.length oc) ([]) ((q :: lb)) (out)) v1 from M0.out.keep hc)
        clear hc
        simp only [Pc.agg]
        have fk := field_k q v1
        by_cases q2 : q.k = 2
        · have q2b : decide (q.k = 2) = true := decide_eq_true q2
          have q2c : (q.k == 2) = true := by simp [q2]
          have Hq2 := hid q2
          clear q2
          go_wp2_with fail
          refine (whole_any (Mem.perm N1.out (List.Perm.swap _ _ _)) (by omega)).mono ?_
          rintro e v2 ⟨rfl, hm⟩
          have N2 := hid (show Mem w.heap.size w (cdL w.heap.size xb xg yb yg (.slice oa out.length oc) ([]) (lb) (out)) v2 from Mem.perm hm (List.Perm.swap _ _ _))
          clear hm
          simp only [Pc.agg]
          have HS1 := S1
          have HS2 := hid S2.out.cons.2
          have HEQ := hid (show (out ++ [q]) ++ Dl.comp [] lb = Dl.comp xs ys from by rw [← EQ.out, Dl.comp_ins HNA.out Hq2.out, List.append_assoc]; rfl)
          have HBD := hid (show (out ++ [q]).length + Dl.tot [] + Dl.tot lb ≤ 8000000 ∧ Dl.tot [] ≤ 4000000 ∧ Dl.tot lb ≤ 4000000 ∧ Dl.tot [] + Dl.tot lb < Dl.tot [] + Dl.tot (q :: lb) from by
            have t1 := S2.out.cons.1.1.long_pos
            have t2 : Dl.tot (q :: lb) = (Dl.long q).toNat + Dl.tot lb := rfl
            have t3 := B1.out
            have t4 := B2.out
            have t5 := B3.out
            rw [t2] at t3 t5
            rw [List.length_append, List.length_singleton]
            omega)
          go_wp2_with (at_builtin; refine wpList_app _ rfl (.tmp 69) (.tmp 72) 77 rfl w.heap.size 128 i0 _ 3 32 Tryz.underlying77 hi hz0 hz1 hz2 rfl (by decide) _ _ _ rfl (((N2.out.alloc (.cells (q).cells.toArray 128)).each 2 _ rfl)) ⟨(v2).heap.size, 0, none⟩ 1 1 (q).cells rfl rfl ?cy1 ?cy2 (by decide) ?cy3 ?cy4 ?cy5 ?cy6)
          case cy1 => intro j u hu; rw [addr_add0]; exact (Blk.cell (Blk.new _ 128 (q).cells.toArray) j).trans (by simpa using hu)
          case cy2 => exact fun u hu => pc_one [q] u (by simpa [pcCells] using hu)
          case cy3 => unfold maxLen; omega
          case cy4 => omega
          case cy5 => exact Nat.le_trans N2.out.bz (by simp)
          case cy6 =>
            intro v' w9 hown' hgrow hfresh
            obtain ⟨Ag, cg, hgv, hcg⟩ := own_slice hown'
            subst hgv
            have M9 := hid ((N2.out.alloc (.cells (q).cells.toArray 128)).app (i := 2) rfl hown' hgrow hfresh)
            clear hown' hgrow hfresh
            have M10 := hid (show Mem w.heap.size w (cdL w.heap.size xb xg yb yg (.slice Ag (out.length + 1) cg) ([]) (lb) (out ++ [q])) w9 from by
              have t := M9.out
              simp only [cdL, List.length_append, List.length_cons, List.length_nil, pcCells_app, pcCells_one] at t ⊢
              exact t)
            have HOL := hid (show (out ++ [q]).length = out.length + 1 by simp)
            have HNEW := hid (show CdI w xs ys xb xg yb yg (.slice Ag (out.length + 1) cg) w9 ([]) (lb) (out ++ [q]) from ⟨M10.out, HS1.out, HS2.out, HEQ.out, HBD.out.1, HBD.out.2.1, HBD.out.2.2.1⟩)
            go_wp2_with fail
            go_roundw
            case rel => exact ⟨[], lb, out ++ [q], HNEW.out⟩
            case measure => exact Nat.lt_of_le_of_lt (lst_le ⟨[], lb, out ++ [q], HNEW.out, rfl⟩) (by rw [← HT.out]; exact HBD.out.2.2.2)
        · have q2b : decide (q.k = 2) = false := decide_eq_false q2
          have q2c : (q.k == 2) = false := by simp [q2]
          have Hq2 := hid q2
          clear q2
          have HNB := hid (show ∀ y, (q :: lb).head? = some y → y.k ≠ 2 from fun y hy => by simp at hy; rw [← hy]; exact Hq2.out)
          go_wp2_with fail
          refine (done_nil (N1.out.each 0 _ rfl)).mono ?_
          rintro e _ ⟨rfl, rfl⟩
          have HCE := hid (show Dl.comp [] (q :: lb) = [] from Dl.comp_end HNA.out HNB.out (by simp))
          go_wp2_with fail
          rw [Exit.noGoto_ret]
          go_ret
          refine ⟨_, rfl, ?_, ⟨N1.out.bel.os, N1.out.bel.tape, N1.out.bel.output, N1.out.bel.size, fun k hk _ => N1.out.bel.block k hk⟩⟩
          have t := EQ.out
          rw [HCE.out, List.append_nil] at t
          rw [← t]
          exact N1.out.each 2 _ rfl
    · have la1 : la.length < 4000000 := by have := L1.out; simp at this; omega
      go_wp2_with fail
      refine (done_cons (M0.out.each 0 _ rfl) (by simp; omega)).mono ?_
      rintro e _ ⟨rfl, rfl⟩
      go_wp2_with fail
      refine (head_any (M0.out.each 0 _ rfl) (by omega)).mono ?_
      rintro e k1 ⟨rfl, hc⟩
      have K1 := hid (show Mem w.heap.size w (cdL w.heap.size xb xg yb yg (.slice oa out.length oc) ((p :: la)) (lb) (out)) k1 from M0.out.keep hc)
      clear hc
      simp only [Pc.agg]
      have fk := field_k p k1
      by_cases p3 : p.k = 3
      · have p3b : decide (p.k = 3) = true := decide_eq_true p3
        have p3c : (p.k == 3) = true := by simp [p3]
        have Hp3 := hid p3
        clear p3
        go_wp2_with fail
        refine (whole_any K1.out (by omega)).mono ?_
        rintro e v2 ⟨rfl, hm⟩
        have N2 := hid (show Mem w.heap.size w (cdL w.heap.size xb xg yb yg (.slice oa out.length oc) (la) (lb) (out)) v2 from hm)
        clear hm
        simp only [Pc.agg]
        have HS1 := hid S1.out.cons.2
        have HS2 := S2
        have HEQ := hid (show (out ++ [p]) ++ Dl.comp la lb = Dl.comp xs ys from by rw [← EQ.out, Dl.comp_del Hp3.out, List.append_assoc]; rfl)
        have HBD := hid (show (out ++ [p]).length + Dl.tot la + Dl.tot lb ≤ 8000000 ∧ Dl.tot la ≤ 4000000 ∧ Dl.tot lb ≤ 4000000 ∧ Dl.tot la + Dl.tot lb < Dl.tot (p :: la) + Dl.tot lb from by
          have t1 := S1.out.cons.1.1.long_pos
          have t2 : Dl.tot (p :: la) = (Dl.long p).toNat + Dl.tot la := rfl
          have t3 := B1.out
          have t4 := B2.out
          have t5 := B3.out
          rw [t2] at t3 t4
          rw [List.length_append, List.length_singleton]
          omega)
        go_wp2_with (at_builtin; refine wpList_app _ rfl (.tmp 54) (.tmp 57) 77 rfl w.heap.size 128 i0 _ 3 32 Tryz.underlying77 hi hz0 hz1 hz2 rfl (by decide) _ _ _ rfl (((N2.out.alloc (.cells (p).cells.toArray 128)).each 2 _ rfl)) ⟨(v2).heap.size, 0, none⟩ 1 1 (p).cells rfl rfl ?cx1 ?cx2 (by decide) ?cx3 ?cx4 ?cx5 ?cx6)
        case cx1 => intro j u hu; rw [addr_add0]; exact (Blk.cell (Blk.new _ 128 (p).cells.toArray) j).trans (by simpa using hu)
        case cx2 => exact fun u hu => pc_one [p] u (by simpa [pcCells] using hu)
        case cx3 => unfold maxLen; omega
        case cx4 => omega
        case cx5 => exact Nat.le_trans N2.out.bz (by simp)
        case cx6 =>
          intro v' w9 hown' hgrow hfresh
          obtain ⟨Ag, cg, hgv, hcg⟩ := own_slice hown'
          subst hgv
          have M9 := hid ((N2.out.alloc (.cells (p).cells.toArray 128)).app (i := 2) rfl hown' hgrow hfresh)
          clear hown' hgrow hfresh
          have M10 := hid (show Mem w.heap.size w (cdL w.heap.size xb xg yb yg (.slice Ag (out.length + 1) cg) (la) (lb) (out ++ [p])) w9 from by
            have t := M9.out
            simp only [cdL, List.length_append, List.length_cons, List.length_nil, pcCells_app, pcCells_one] at t ⊢
            exact t)
          have HOL := hid (show (out ++ [p]).length = out.length + 1 by simp)
          have HNEW := hid (show CdI w xs ys xb xg yb yg (.slice Ag (out.length + 1) cg) w9 (la) (lb) (out ++ [p]) from ⟨M10.out, HS1.out, HS2.out, HEQ.out, HBD.out.1, HBD.out.2.1, HBD.out.2.2.1⟩)
          go_wp2_with fail
          go_roundw
          case rel => exact ⟨la, lb, out ++ [p], HNEW.out⟩
          case measure => exact Nat.lt_of_le_of_lt (lst_le ⟨la, lb, out ++ [p], HNEW.out, rfl⟩) (by rw [← HT.out]; exact HBD.out.2.2.2)
      · have p3b : decide (p.k = 3) = false := decide_eq_false p3
        have p3c : (p.k == 3) = false := by simp [p3]
        have Hp3 := hid p3
        clear p3
        have HNA := hid (show ∀ x, (p :: la).head? = some x → x.k ≠ 3 from fun x hx => by simp at hx; rw [← hx]; exact Hp3.out)
        rcases lb with _ | ⟨q, lb⟩
        · skip
          go_wp2_with fail
          refine (done_nil (K1.out.each 1 _ rfl)).mono ?_
          rintro e _ ⟨rfl, rfl⟩
          have HNB := hid (show ∀ y, ([] : List Pc).head? = some y → y.k ≠ 2 from fun y hy => by simp at hy)
          go_wp2_with fail
          refine (done_cons (K1.out.each 0 _ rfl) (by simp; omega)).mono ?_
          rintro e _ ⟨rfl, rfl⟩
          go_wp2_with fail
          refine (done_nil (K1.out.each 1 _ rfl)).mono ?_
          rintro e _ ⟨rfl, rfl⟩
          have HCE := hid (show Dl.comp (p :: la) [] = [] from Dl.comp_end HNA.out HNB.out (by simp))
          go_wp2_with fail
          rw [Exit.noGoto_ret]
          go_ret
          refine ⟨_, rfl, ?_, ⟨K1.out.bel.os, K1.out.bel.tape, K1.out.bel.output, K1.out.bel.size, fun k hk _ => K1.out.bel.block k hk⟩⟩
          have t := EQ.out
          rw [HCE.out, List.append_nil] at t
          rw [← t]
          exact K1.out.each 2 _ rfl
        · have lb1 : lb.length < 4000000 := by have := L2.out; simp at this; omega
          go_wp2_with fail
          refine (done_cons (K1.out.each 1 _ rfl) (by simp; omega)).mono ?_
          rintro e _ ⟨rfl, rfl⟩
          go_wp2_with fail
          refine (head_any (K1.out.each 1 _ rfl) (by omega)).mono ?_
          rintro e v1 ⟨rfl, hc⟩
          have N1 := hid (show Mem w.heap.size w (cdL w.heap.size xb xg yb yg (.slice oa out.length oc) ((p :: la)) ((q :: lb)) (out)) v1 from K1.out.keep hc)
          clear hc
          simp only [Pc.agg]
          have fk := field_k q v1
          by_cases q2 : q.k = 2
          · have q2b : decide (q.k = 2) = true := decide_eq_true q2
            have q2c : (q.k == 2) = true := by simp [q2]
            have Hq2 := hid q2
            clear q2
            go_wp2_with fail
            refine (whole_any (Mem.perm N1.out (List.Perm.swap _ _ _)) (by omega)).mono ?_
            rintro e v2 ⟨rfl, hm⟩
            have N2 := hid (show Mem w.heap.size w (cdL w.heap.size xb xg yb yg (.slice oa out.length oc) ((p :: la)) (lb) (out)) v2 from Mem.perm hm (List.Perm.swap _ _ _))
            clear hm
            simp only [Pc.agg]
            have HS1 := S1
            have HS2 := hid S2.out.cons.2
            have HEQ := hid (show (out ++ [q]) ++ Dl.comp (p :: la) lb = Dl.comp xs ys from by rw [← EQ.out, Dl.comp_ins HNA.out Hq2.out, List.append_assoc]; rfl)
            have HBD := hid (show (out ++ [q]).length + Dl.tot (p :: la) + Dl.tot lb ≤ 8000000 ∧ Dl.tot (p :: la) ≤ 4000000 ∧ Dl.tot lb ≤ 4000000 ∧ Dl.tot (p :: la) + Dl.tot lb < Dl.tot (p :: la) + Dl.tot (q :: lb) from by
              have t1 := S2.out.cons.1.1.long_pos
              have t2 : Dl.tot (q :: lb) = (Dl.long q).toNat + Dl.tot lb := rfl
              have t3 := B1.out
              have t4 := B2.out
              have t5 := B3.out
              rw [t2] at t3 t5
              rw [List.length_append, List.length_singleton]
              omega)
            go_wp2_with (at_builtin; refine wpList_app _ rfl (.tmp 69) (.tmp 72) 77 rfl w.heap.size 128 i0 _ 3 32 Tryz.underlying77 hi hz0 hz1 hz2 rfl (by decide) _ _ _ rfl (((N2.out.alloc (.cells (q).cells.toArray 128)).each 2 _ rfl)) ⟨(v2).heap.size, 0, none⟩ 1 1 (q).cells rfl rfl ?cy1 ?cy2 (by decide) ?cy3 ?cy4 ?cy5 ?cy6)
            case cy1 => intro j u hu; rw [addr_add0]; exact (Blk.cell (Blk.new _ 128 (q).cells.toArray) j).trans (by simpa using hu)
            case cy2 => exact fun u hu => pc_one [q] u (by simpa [pcCells] using hu)
            case cy3 => unfold maxLen; omega
            case cy4 => omega
            case cy5 => exact Nat.le_trans N2.out.bz (by simp)
            case cy6 =>
              intro v' w9 hown' hgrow hfresh
              obtain ⟨Ag, cg, hgv, hcg⟩ := own_slice hown'
              subst hgv
              have M9 := hid ((N2.out.alloc (.cells (q).cells.toArray 128)).app (i := 2) rfl hown' hgrow hfresh)
              clear hown' hgrow hfresh
              have M10 := hid (show Mem w.heap.size w (cdL w.heap.size xb xg yb yg (.slice Ag (out.length + 1) cg) ((p :: la)) (lb) (out ++ [q])) w9 from by
                have t := M9.out
                simp only [cdL, List.length_append, List.length_cons, List.length_nil, pcCells_app, pcCells_one] at t ⊢
                exact t)
              have HOL := hid (show (out ++ [q]).length = out.length + 1 by simp)
              have HNEW := hid (show CdI w xs ys xb xg yb yg (.slice Ag (out.length + 1) cg) w9 ((p :: la)) (lb) (out ++ [q]) from ⟨M10.out, HS1.out, HS2.out, HEQ.out, HBD.out.1, HBD.out.2.1, HBD.out.2.2.1⟩)
              go_wp2_with fail
              go_roundw
              case rel => exact ⟨(p :: la), lb, out ++ [q], HNEW.out⟩
              case measure => exact Nat.lt_of_le_of_lt (lst_le ⟨(p :: la), lb, out ++ [q], HNEW.out, rfl⟩) (by rw [← HT.out]; exact HBD.out.2.2.2)
          · have q2b : decide (q.k = 2) = false := decide_eq_false q2
            have q2c : (q.k == 2) = false := by simp [q2]
            have Hq2 := hid q2
            clear q2
            have HNB := hid (show ∀ y, (q :: lb).head? = some y → y.k ≠ 2 from fun y hy => by simp at hy; rw [← hy]; exact Hq2.out)
            go_wp2_with fail
            refine (done_cons (N1.out.each 0 _ rfl) (by simp; omega)).mono ?_
            rintro e _ ⟨rfl, rfl⟩
            go_wp2_with fail
            refine (done_cons (N1.out.each 1 _ rfl) (by simp; omega)).mono ?_
            rintro e _ ⟨rfl, rfl⟩
            have X1 := hid S1.out.cons.1
            have Y1 := hid S2.out.cons.1
            clear fk
            go_wp2_with fail
            refine (head_any (N1.out.each 0 _ rfl) (by omega)).mono ?_
            rintro e v2 ⟨rfl, hc⟩
            have N2 := hid (show Mem w.heap.size w (cdL w.heap.size xb xg yb yg (.slice oa out.length oc) ((p :: la)) ((q :: lb)) (out)) v2 from N1.out.keep hc)
            clear hc
            simp only [Pc.agg]
            have fk := field_k p v2
            go_wp2_with fail
            refine (long_any p v2 X1.out.1.inn0 X1.out.2.1 X1.out.2.2).mono ?_
            rintro e v3 ⟨rfl, hc⟩
            have N3 := hid (show Mem w.heap.size w (cdL w.heap.size xb xg yb yg (.slice oa out.length oc) ((p :: la)) ((q :: lb)) (out)) v3 from N2.out.keep hc)
            clear hc
            obtain ⟨lp, hlp⟩ : ∃ x, x = Dl.long p := ⟨_, rfl⟩
            rw [← hlp]
            have HLp := hid hlp
            clear hlp
            go_wp2_with fail
            refine (head_any (N3.out.each 1 _ rfl) (by omega)).mono ?_
            rintro e v4 ⟨rfl, hc⟩
            have N4 := hid (show Mem w.heap.size w (cdL w.heap.size xb xg yb yg (.slice oa out.length oc) ((p :: la)) ((q :: lb)) (out)) v4 from N3.out.keep hc)
            clear hc
            simp only [Pc.agg]
            have fk := field_k q v4
            go_wp2_with fail
            refine (long_any q v4 Y1.out.1.inn0 Y1.out.2.1 Y1.out.2.2).mono ?_
            rintro e v5 ⟨rfl, hc⟩
            have N5 := hid (show Mem w.heap.size w (cdL w.heap.size xb xg yb yg (.slice oa out.length oc) ((p :: la)) ((q :: lb)) (out)) v5 from N4.out.keep hc)
            clear hc
            obtain ⟨lq, hlq⟩ : ∃ x, x = Dl.long q := ⟨_, rfl⟩
            rw [← hlq]
            have HLq := hid hlq
            clear hlq
            have HLEN := hid (show 1 ≤ lp ∧ 1 ≤ lq from ⟨by rw [HLp.out]; exact X1.out.1.long_pos, by rw [HLq.out]; exact Y1.out.1.long_pos⟩)
            rcases Int.lt_or_le lq lp with hlt | hlt
            · obtain ⟨n, rfl⟩ : ∃ n : Nat, lq = n := ⟨lq.toNat, by have := HLEN.out; omega⟩
              have HN := hid (show (n : Int) = min (Dl.long p) (Dl.long q) ∧ 1 ≤ n ∧ (n : Int) ≤ Dl.long p ∧ (n : Int) ≤ Dl.long q from by have := HLEN.out; rw [← HLp.out, ← HLq.out]; refine ⟨?_, by omega, by omega, by omega⟩; omega)
              go_wp2_with fail
              refine (rtake_any N5.out la1 X1.out.1 X1.out.2.1 X1.out.2.2 HN.out.2.1 HN.out.2.2.1).mono ?_
              rintro e v6 ⟨rfl, hm⟩
              have N6 := hid (show Mem w.heap.size w (cdL w.heap.size xb xg yb yg (.slice oa out.length oc) ((Dl.left p la n)) ((q :: lb)) (out)) v6 from hm)
              clear hm
              obtain ⟨pp, hpp⟩ : ∃ x, x = Dl.part p n := ⟨_, rfl⟩
              rw [← hpp]
              have HPP := hid hpp
              clear hpp
              simp only [Pc.agg]
              go_wp2_with fail
              refine (rtake_any (Mem.perm N6.out (List.Perm.swap _ _ _)) lb1 Y1.out.1 Y1.out.2.1 Y1.out.2.2 HN.out.2.1 HN.out.2.2.2).mono ?_
              rintro e v7 ⟨rfl, hm⟩
              have N7 := hid (show Mem w.heap.size w (cdL w.heap.size xb xg yb yg (.slice oa out.length oc) ((Dl.left p la n)) ((Dl.left q lb n)) (out)) v7 from Mem.perm hm (List.Perm.swap _ _ _))
              clear hm
              obtain ⟨qq, hqq⟩ : ∃ x, x = Dl.part q n := ⟨_, rfl⟩
              rw [← hqq]
              have HQQ := hid hqq
              clear hqq
              simp only [Pc.agg]
              have N8 := hid (show Mem w.heap.size w (cdL w.heap.size xb xg yb yg (.slice oa out.length oc) ((Dl.left p la n)) ((Dl.left q lb n)) (out)) ((v7.alloc (.cells pp.cells.toArray 128)).alloc (.cells qq.cells.toArray 128)) from (N7.out.alloc _).alloc _)
              have hw8 : ((v7.alloc (.cells pp.cells.toArray 128)).alloc (.cells qq.cells.toArray 128)).heap.size = v7.heap.size + 1 + 1 := by simp
              have HS1 := hid (Dl.sm_left S1.out (n := (n : Int)) (by have := HN.out.2.1; omega))
              have HS2 := hid (Dl.sm_left S2.out (n := (n : Int)) (by have := HN.out.2.1; omega))
              have HTT := hid (show Dl.tot (Dl.left p la n) + n = Dl.tot (p :: la) ∧ Dl.tot (Dl.left q lb n) + n = Dl.tot (q :: lb) from ⟨Dl.tot_left X1.out.1 HN.out.2.1 HN.out.2.2.1, Dl.tot_left Y1.out.1 HN.out.2.1 HN.out.2.2.2⟩)
              have HCC := hid (show Dl.comp (p :: la) (q :: lb) = Dl.both pp qq ++ Dl.comp (Dl.left p la n) (Dl.left q lb n) from by rw [HPP.out, HQQ.out]; exact Dl.comp_both Hp3.out Hq2.out _ HN.out.1)
              by_cases q1 : qq.k = 1
              · have q1b : decide (qq.k = 1) = true := decide_eq_true q1
                have q1c : (qq.k == 1) = true := by simp [q1]
                have Hq1 := hid q1
                clear q1
                have HEQ := hid (show (out ++ [pp]) ++ Dl.comp (Dl.left p la n) (Dl.left q lb n) = Dl.comp xs ys from by
                  have e := EQ.out
                  have e2 := HCC.out
                  unfold Dl.both at e2
                  rw [if_pos Hq1.out] at e2
                  rw [← e, e2]
                  simp)
                have HBD := hid (show (out ++ [pp]).length + Dl.tot (Dl.left p la n) + Dl.tot (Dl.left q lb n) ≤ 8000000 ∧ Dl.tot (Dl.left p la n) ≤ 4000000 ∧ Dl.tot (Dl.left q lb n) ≤ 4000000 ∧ Dl.tot (Dl.left p la n) + Dl.tot (Dl.left q lb n) < Dl.tot (p :: la) + Dl.tot (q :: lb) from by
                  have t0 := HTT.out
                  have t1 := HN.out.2.1
                  have t3 := B1.out
                  have t4 := B2.out
                  have t5 := B3.out
                  rw [List.length_append, List.length_singleton]
                  omega)
                go_wp2_with (at_builtin; refine wpList_app _ rfl (.tmp 32) (.tmp 34) 77 rfl w.heap.size 128 i0 _ 3 32 Tryz.underlying77 hi hz0 hz1 hz2 rfl (by decide) _ _ _ rfl (((N8.out.alloc (.cells (pp).cells.toArray 128)).each 2 _ rfl)) ⟨v7.heap.size + 1 + 1, 0, none⟩ 1 1 (pp).cells rfl rfl ?cz1 ?cz2 (by decide) ?cz3 ?cz4 ?cz5 ?cz6)
                case cz1 => intro j u hu; rw [addr_add0, ← hw8]; exact (Blk.cell (Blk.new _ 128 (pp).cells.toArray) j).trans (by simpa using hu)
                case cz2 => exact fun u hu => pc_one [pp] u (by simpa [pcCells] using hu)
                case cz3 => unfold maxLen; omega
                case cz4 => omega
                case cz5 => exact Nat.le_trans N8.out.bz (by simp)
                case cz6 =>
                  intro v' w9 hown' hgrow hfresh
                  obtain ⟨Ag, cg, hgv, hcg⟩ := own_slice hown'
                  subst hgv
                  have M9 := hid ((N8.out.alloc (.cells (pp).cells.toArray 128)).app (i := 2) rfl hown' hgrow hfresh)
                  clear hown' hgrow hfresh
                  have M10 := hid (show Mem w.heap.size w (cdL w.heap.size xb xg yb yg (.slice Ag (out.length + 1) cg) ((Dl.left p la n)) ((Dl.left q lb n)) (out ++ [pp])) w9 from by
                    have t := M9.out
                    simp only [cdL, List.length_append, List.length_cons, List.length_nil, pcCells_app, pcCells_one] at t ⊢
                    exact t)
                  have HOL := hid (show (out ++ [pp]).length = out.length + 1 by simp)
                  have HNEW := hid (show CdI w xs ys xb xg yb yg (.slice Ag (out.length + 1) cg) w9 ((Dl.left p la n)) ((Dl.left q lb n)) (out ++ [pp]) from ⟨M10.out, HS1.out, HS2.out, HEQ.out, HBD.out.1, HBD.out.2.1, HBD.out.2.2.1⟩)
                  go_wp2_with fail
                  go_roundw
                  case rel => exact ⟨(Dl.left p la n), (Dl.left q lb n), out ++ [pp], HNEW.out⟩
                  case measure => exact Nat.lt_of_le_of_lt (lst_le ⟨(Dl.left p la n), (Dl.left q lb n), out ++ [pp], HNEW.out, rfl⟩) (by rw [← HT.out]; exact HBD.out.2.2.2)
              · have q1b : decide (qq.k = 1) = false := decide_eq_false q1
                have q1c : (qq.k == 1) = false := by simp [q1]
                have Hq1 := hid q1
                clear q1
                by_cases p1 : pp.k = 1
                · have p1b : decide (pp.k = 1) = true := decide_eq_true p1
                  have p1c : (pp.k == 1) = true := by simp [p1]
                  have Hp1 := hid p1
                  clear p1
                  have HEQ := hid (show (out ++ [qq]) ++ Dl.comp (Dl.left p la n) (Dl.left q lb n) = Dl.comp xs ys from by
                    have e := EQ.out
                    have e2 := HCC.out
                    unfold Dl.both at e2
                    rw [if_neg Hq1.out, if_pos Hp1.out] at e2
                    rw [← e, e2]
                    simp)
                  have HBD := hid (show (out ++ [qq]).length + Dl.tot (Dl.left p la n) + Dl.tot (Dl.left q lb n) ≤ 8000000 ∧ Dl.tot (Dl.left p la n) ≤ 4000000 ∧ Dl.tot (Dl.left q lb n) ≤ 4000000 ∧ Dl.tot (Dl.left p la n) + Dl.tot (Dl.left q lb n) < Dl.tot (p :: la) + Dl.tot (q :: lb) from by
                    have t0 := HTT.out
                    have t1 := HN.out.2.1
                    have t3 := B1.out
                    have t4 := B2.out
                    have t5 := B3.out
                    rw [List.length_append, List.length_singleton]
                    omega)
                  go_wp2_with (at_builtin; refine wpList_app _ rfl (.tmp 40) (.tmp 42) 77 rfl w.heap.size 128 i0 _ 3 32 Tryz.underlying77 hi hz0 hz1 hz2 rfl (by decide) _ _ _ rfl (((N8.out.alloc (.cells (qq).cells.toArray 128)).each 2 _ rfl)) ⟨v7.heap.size + 1 + 1, 0, none⟩ 1 1 (qq).cells rfl rfl ?cw1 ?cw2 (by decide) ?cw3 ?cw4 ?cw5 ?cw6)
                  case cw1 => intro j u hu; rw [addr_add0, ← hw8]; exact (Blk.cell (Blk.new _ 128 (qq).cells.toArray) j).trans (by simpa using hu)
                  case cw2 => exact fun u hu => pc_one [qq] u (by simpa [pcCells] using hu)
                  case cw3 => unfold maxLen; omega
                  case cw4 => omega
                  case cw5 => exact Nat.le_trans N8.out.bz (by simp)
                  case cw6 =>
                    intro v' w9 hown' hgrow hfresh
                    obtain ⟨Ag, cg, hgv, hcg⟩ := own_slice hown'
                    subst hgv
                    have M9 := hid ((N8.out.alloc (.cells (qq).cells.toArray 128)).app (i := 2) rfl hown' hgrow hfresh)
                    clear hown' hgrow hfresh
                    have M10 := hid (show Mem w.heap.size w (cdL w.heap.size xb xg yb yg (.slice Ag (out.length + 1) cg) ((Dl.left p la n)) ((Dl.left q lb n)) (out ++ [qq])) w9 from by
                      have t := M9.out
                      simp only [cdL, List.length_append, List.length_cons, List.length_nil, pcCells_app, pcCells_one] at t ⊢
                      exact t)
                    have HOL := hid (show (out ++ [qq]).length = out.length + 1 by simp)
                    have HNEW := hid (show CdI w xs ys xb xg yb yg (.slice Ag (out.length + 1) cg) w9 ((Dl.left p la n)) ((Dl.left q lb n)) (out ++ [qq]) from ⟨M10.out, HS1.out, HS2.out, HEQ.out, HBD.out.1, HBD.out.2.1, HBD.out.2.2.1⟩)
                    go_wp2_with fail
                    go_roundw
                    case rel => exact ⟨(Dl.left p la n), (Dl.left q lb n), out ++ [qq], HNEW.out⟩
                    case measure => exact Nat.lt_of_le_of_lt (lst_le ⟨(Dl.left p la n), (Dl.left q lb n), out ++ [qq], HNEW.out, rfl⟩) (by rw [← HT.out]; exact HBD.out.2.2.2)
                · have p1b : decide (pp.k = 1) = false := decide_eq_false p1
                  have p1c : (pp.k == 1) = false := by simp [p1]
                  have Hp1 := hid p1
                  clear p1
                  have HEQ := hid (show out ++ Dl.comp (Dl.left p la n) (Dl.left q lb n) = Dl.comp xs ys from by
                    have e := EQ.out
                    have e2 := HCC.out
                    unfold Dl.both at e2
                    rw [if_neg Hq1.out, if_neg Hp1.out] at e2
                    rw [← e, e2]
                    simp)
                  have HBD := hid (show out.length + Dl.tot (Dl.left p la n) + Dl.tot (Dl.left q lb n) ≤ 8000000 ∧ Dl.tot (Dl.left p la n) ≤ 4000000 ∧ Dl.tot (Dl.left q lb n) ≤ 4000000 ∧ Dl.tot (Dl.left p la n) + Dl.tot (Dl.left q lb n) < Dl.tot (p :: la) + Dl.tot (q :: lb) from by
                    have t0 := HTT.out
                    have t1 := HN.out.2.1
                    have t3 := B1.out
                    have t4 := B2.out
                    have t5 := B3.out
                    skip
                    omega)
                  have HNEW := hid (show CdI w xs ys xb xg yb yg (.slice oa out.length oc) ((v7.alloc (.cells pp.cells.toArray 128)).alloc (.cells qq.cells.toArray 128)) ((Dl.left p la n)) ((Dl.left q lb n)) (out) from ⟨N8.out, HS1.out, HS2.out, HEQ.out, HBD.out.1, HBD.out.2.1, HBD.out.2.2.1⟩)
                  go_wp2_with fail
                  go_roundw
                  case rel => exact ⟨(Dl.left p la n), (Dl.left q lb n), out, HNEW.out⟩
                  case measure => exact Nat.lt_of_le_of_lt (lst_le ⟨(Dl.left p la n), (Dl.left q lb n), out, HNEW.out, rfl⟩) (by rw [← HT.out]; exact HBD.out.2.2.2)
            · obtain ⟨n, rfl⟩ : ∃ n : Nat, lp = n := ⟨lp.toNat, by have := HLEN.out; omega⟩
              have HN := hid (show (n : Int) = min (Dl.long p) (Dl.long q) ∧ 1 ≤ n ∧ (n : Int) ≤ Dl.long p ∧ (n : Int) ≤ Dl.long q from by have := HLEN.out; rw [← HLp.out, ← HLq.out]; refine ⟨?_, by omega, by omega, by omega⟩; omega)
              go_wp2_with fail
              refine (rtake_any N5.out la1 X1.out.1 X1.out.2.1 X1.out.2.2 HN.out.2.1 HN.out.2.2.1).mono ?_
              rintro e v6 ⟨rfl, hm⟩
              have N6 := hid (show Mem w.heap.size w (cdL w.heap.size xb xg yb yg (.slice oa out.length oc) ((Dl.left p la n)) ((q :: lb)) (out)) v6 from hm)
              clear hm
              obtain ⟨pp, hpp⟩ : ∃ x, x = Dl.part p n := ⟨_, rfl⟩
              rw [← hpp]
              have HPP := hid hpp
              clear hpp
              simp only [Pc.agg]
              go_wp2_with fail
              refine (rtake_any (Mem.perm N6.out (List.Perm.swap _ _ _)) lb1 Y1.out.1 Y1.out.2.1 Y1.out.2.2 HN.out.2.1 HN.out.2.2.2).mono ?_
              rintro e v7 ⟨rfl, hm⟩
              have N7 := hid (show Mem w.heap.size w (cdL w.heap.size xb xg yb yg (.slice oa out.length oc) ((Dl.left p la n)) ((Dl.left q lb n)) (out)) v7 from Mem.perm hm (List.Perm.swap _ _ _))
              clear hm
              obtain ⟨qq, hqq⟩ : ∃ x, x = Dl.part q n := ⟨_, rfl⟩
              rw [← hqq]
              have HQQ := hid hqq
              clear hqq
              simp only [Pc.agg]
              have N8 := hid (show Mem w.heap.size w (cdL w.heap.size xb xg yb yg (.slice oa out.length oc) ((Dl.left p la n)) ((Dl.left q lb n)) (out)) ((v7.alloc (.cells pp.cells.toArray 128)).alloc (.cells qq.cells.toArray 128)) from (N7.out.alloc _).alloc _)
              have hw8 : ((v7.alloc (.cells pp.cells.toArray 128)).alloc (.cells qq.cells.toArray 128)).heap.size = v7.heap.size + 1 + 1 := by simp
              have HS1 := hid (Dl.sm_left S1.out (n := (n : Int)) (by have := HN.out.2.1; omega))
              have HS2 := hid (Dl.sm_left S2.out (n := (n : Int)) (by have := HN.out.2.1; omega))
              have HTT := hid (show Dl.tot (Dl.left p la n) + n = Dl.tot (p :: la) ∧ Dl.tot (Dl.left q lb n) + n = Dl.tot (q :: lb) from ⟨Dl.tot_left X1.out.1 HN.out.2.1 HN.out.2.2.1, Dl.tot_left Y1.out.1 HN.out.2.1 HN.out.2.2.2⟩)
              have HCC := hid (show Dl.comp (p :: la) (q :: lb) = Dl.both pp qq ++ Dl.comp (Dl.left p la n) (Dl.left q lb n) from by rw [HPP.out, HQQ.out]; exact Dl.comp_both Hp3.out Hq2.out _ HN.out.1)
              by_cases q1 : qq.k = 1
              · have q1b : decide (qq.k = 1) = true := decide_eq_true q1
                have q1c : (qq.k == 1) = true := by simp [q1]
                have Hq1 := hid q1
                clear q1
                have HEQ := hid (show (out ++ [pp]) ++ Dl.comp (Dl.left p la n) (Dl.left q lb n) = Dl.comp xs ys from by
                  have e := EQ.out
                  have e2 := HCC.out
                  unfold Dl.both at e2
                  rw [if_pos Hq1.out] at e2
                  rw [← e, e2]
                  simp)
                have HBD := hid (show (out ++ [pp]).length + Dl.tot (Dl.left p la n) + Dl.tot (Dl.left q lb n) ≤ 8000000 ∧ Dl.tot (Dl.left p la n) ≤ 4000000 ∧ Dl.tot (Dl.left q lb n) ≤ 4000000 ∧ Dl.tot (Dl.left p la n) + Dl.tot (Dl.left q lb n) < Dl.tot (p :: la) + Dl.tot (q :: lb) from by
                  have t0 := HTT.out
                  have t1 := HN.out.2.1
                  have t3 := B1.out
                  have t4 := B2.out
                  have t5 := B3.out
                  rw [List.length_append, List.length_singleton]
                  omega)
                go_wp2_with (at_builtin; refine wpList_app _ rfl (.tmp 32) (.tmp 34) 77 rfl w.heap.size 128 i0 _ 3 32 Tryz.underlying77 hi hz0 hz1 hz2 rfl (by decide) _ _ _ rfl (((N8.out.alloc (.cells (pp).cells.toArray 128)).each 2 _ rfl)) ⟨v7.heap.size + 1 + 1, 0, none⟩ 1 1 (pp).cells rfl rfl ?cz1 ?cz2 (by decide) ?cz3 ?cz4 ?cz5 ?cz6)
                case cz1 => intro j u hu; rw [addr_add0, ← hw8]; exact (Blk.cell (Blk.new _ 128 (pp).cells.toArray) j).trans (by simpa using hu)
                case cz2 => exact fun u hu => pc_one [pp] u (by simpa [pcCells] using hu)
                case cz3 => unfold maxLen; omega
                case cz4 => omega
                case cz5 => exact Nat.le_trans N8.out.bz (by simp)
                case cz6 =>
                  intro v' w9 hown' hgrow hfresh
                  obtain ⟨Ag, cg, hgv, hcg⟩ := own_slice hown'
                  subst hgv
                  have M9 := hid ((N8.out.alloc (.cells (pp).cells.toArray 128)).app (i := 2) rfl hown' hgrow hfresh)
                  clear hown' hgrow hfresh
                  have M10 := hid (show Mem w.heap.size w (cdL w.heap.size xb xg yb yg (.slice Ag (out.length + 1) cg) ((Dl.left p la n)) ((Dl.left q lb n)) (out ++ [pp])) w9 from by
                    have t := M9.out
                    simp only [cdL, List.length_append, List.length_cons, List.length_nil, pcCells_app, pcCells_one] at t ⊢
                    exact t)
                  have HOL := hid (show (out ++ [pp]).length = out.length + 1 by simp)
                  have HNEW := hid (show CdI w xs ys xb xg yb yg (.slice Ag (out.length + 1) cg) w9 ((Dl.left p la n)) ((Dl.left q lb n)) (out ++ [pp]) from ⟨M10.out, HS1.out, HS2.out, HEQ.out, HBD.out.1, HBD.out.2.1, HBD.out.2.2.1⟩)
                  go_wp2_with fail
                  go_roundw
                  case rel => exact ⟨(Dl.left p la n), (Dl.left q lb n), out ++ [pp], HNEW.out⟩
                  case measure => exact Nat.lt_of_le_of_lt (lst_le ⟨(Dl.left p la n), (Dl.left q lb n), out ++ [pp], HNEW.out, rfl⟩) (by rw [← HT.out]; exact HBD.out.2.2.2)
              · have q1b : decide (qq.k = 1) = false := decide_eq_false q1
                have q1c : (qq.k == 1) = false := by simp [q1]
                have Hq1 := hid q1
                clear q1
                by_cases p1 : pp.k = 1
                · have p1b : decide (pp.k = 1) = true := decide_eq_true p1
                  have p1c : (pp.k == 1) = true := by simp [p1]
                  have Hp1 := hid p1
                  clear p1
                  have HEQ := hid (show (out ++ [qq]) ++ Dl.comp (Dl.left p la n) (Dl.left q lb n) = Dl.comp xs ys from by
                    have e := EQ.out
                    have e2 := HCC.out
                    unfold Dl.both at e2
                    rw [if_neg Hq1.out, if_pos Hp1.out] at e2
                    rw [← e, e2]
                    simp)
                  have HBD := hid (show (out ++ [qq]).length + Dl.tot (Dl.left p la n) + Dl.tot (Dl.left q lb n) ≤ 8000000 ∧ Dl.tot (Dl.left p la n) ≤ 4000000 ∧ Dl.tot (Dl.left q lb n) ≤ 4000000 ∧ Dl.tot (Dl.left p la n) + Dl.tot (Dl.left q lb n) < Dl.tot (p :: la) + Dl.tot (q :: lb) from by
                    have t0 := HTT.out
                    have t1 := HN.out.2.1
                    have t3 := B1.out
                    have t4 := B2.out
                    have t5 := B3.out
                    rw [List.length_append, List.length_singleton]
                    omega)
                  go_wp2_with (at_builtin; refine wpList_app _ rfl (.tmp 40) (.tmp 42) 77 rfl w.heap.size 128 i0 _ 3 32 Tryz.underlying77 hi hz0 hz1 hz2 rfl (by decide) _ _ _ rfl (((N8.out.alloc (.cells (qq).cells.toArray 128)).each 2 _ rfl)) ⟨v7.heap.size + 1 + 1, 0, none⟩ 1 1 (qq).cells rfl rfl ?cw1 ?cw2 (by decide) ?cw3 ?cw4 ?cw5 ?cw6)
                  case cw1 => intro j u hu; rw [addr_add0, ← hw8]; exact (Blk.cell (Blk.new _ 128 (qq).cells.toArray) j).trans (by simpa using hu)
                  case cw2 => exact fun u hu => pc_one [qq] u (by simpa [pcCells] using hu)
                  case cw3 => unfold maxLen; omega
                  case cw4 => omega
                  case cw5 => exact Nat.le_trans N8.out.bz (by simp)
                  case cw6 =>
                    intro v' w9 hown' hgrow hfresh
                    obtain ⟨Ag, cg, hgv, hcg⟩ := own_slice hown'
                    subst hgv
                    have M9 := hid ((N8.out.alloc (.cells (qq).cells.toArray 128)).app (i := 2) rfl hown' hgrow hfresh)
                    clear hown' hgrow hfresh
                    have M10 := hid (show Mem w.heap.size w (cdL w.heap.size xb xg yb yg (.slice Ag (out.length + 1) cg) ((Dl.left p la n)) ((Dl.left q lb n)) (out ++ [qq])) w9 from by
                      have t := M9.out
                      simp only [cdL, List.length_append, List.length_cons, List.length_nil, pcCells_app, pcCells_one] at t ⊢
                      exact t)
                    have HOL := hid (show (out ++ [qq]).length = out.length + 1 by simp)
                    have HNEW := hid (show CdI w xs ys xb xg yb yg (.slice Ag (out.length + 1) cg) w9 ((Dl.left p la n)) ((Dl.left q lb n)) (out ++ [qq]) from ⟨M10.out, HS1.out, HS2.out, HEQ.out, HBD.out.1, HBD.out.2.1, HBD.out.2.2.1⟩)
                    go_wp2_with fail
                    go_roundw
                    case rel => exact ⟨(Dl.left p la n), (Dl.left q lb n), out ++ [qq], HNEW.out⟩
                    case measure => exact Nat.lt_of_le_of_lt (lst_le ⟨(Dl.left p la n), (Dl.left q lb n), out ++ [qq], HNEW.out, rfl⟩) (by rw [← HT.out]; exact HBD.out.2.2.2)
                · have p1b : decide (pp.k = 1) = false := decide_eq_false p1
                  have p1c : (pp.k == 1) = false := by simp [p1]
                  have Hp1 := hid p1
                  clear p1
                  have HEQ := hid (show out ++ Dl.comp (Dl.left p la n) (Dl.left q lb n) = Dl.comp xs ys from by
                    have e := EQ.out
                    have e2 := HCC.out
                    unfold Dl.both at e2
                    rw [if_neg Hq1.out, if_neg Hp1.out] at e2
                    rw [← e, e2]
                    simp)
                  have HBD := hid (show out.length + Dl.tot (Dl.left p la n) + Dl.tot (Dl.left q lb n) ≤ 8000000 ∧ Dl.tot (Dl.left p la n) ≤ 4000000 ∧ Dl.tot (Dl.left q lb n) ≤ 4000000 ∧ Dl.tot (Dl.left p la n) + Dl.tot (Dl.left q lb n) < Dl.tot (p :: la) + Dl.tot (q :: lb) from by
                    have t0 := HTT.out
                    have t1 := HN.out.2.1
                    have t3 := B1.out
                    have t4 := B2.out
                    have t5 := B3.out
                    skip
                    omega)
                  have HNEW := hid (show CdI w xs ys xb xg yb yg (.slice oa out.length oc) ((v7.alloc (.cells pp.cells.toArray 128)).alloc (.cells qq.cells.toArray 128)) ((Dl.left p la n)) ((Dl.left q lb n)) (out) from ⟨N8.out, HS1.out, HS2.out, HEQ.out, HBD.out.1, HBD.out.2.1, HBD.out.2.2.1⟩)
                  go_wp2_with fail
                  go_roundw
                  case rel => exact ⟨(Dl.left p la n), (Dl.left q lb n), out, HNEW.out⟩
                  case measure => exact Nat.lt_of_le_of_lt (lst_le ⟨(Dl.left p la n), (Dl.left q lb n), out, HNEW.out, rfl⟩) (by rw [← HT.out]; exact HBD.out.2.2.2)
end Go.Proofs.YtefpabicgefciaaGreat
