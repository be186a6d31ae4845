/- Texts XCompE, XCompF, XCompG, XKeepC, XFrameS, XFrameN, XKeepI for XChE, by trim.py. -/
import Derived.Test.YtefpabicgefciaaGreatDb09
import Derived.Test.YtefpabicgefciaaGreatDb06
import Derived.OwnWalk
import Derived.Test.YtefpabicgefciaaGreatDb03
import Derived.Test.YtefpabicgefciaaGreatDb04
namespace Go.Proofs.YtefpabicgefciaaGreat
open Go.RowKit
set_option linter.unusedVariables false
set_option linter.unusedSimpArgs false
set_option linter.unusedSectionVars false
def sgV (b : Nat) : Value := .slice (some ⟨b, 0, none⟩) 1 1
theorem sg_one (l : List Nat) : ∀ u ∈ l.map sgV, u.oneCell' = true := fun u hu => by
  obtain ⟨b, _, rfl⟩ := List.mem_map.1 hu
  rfl
theorem flat_ones : ∀ xs : List Pc, (xs.map fun x => [x]).flatten = xs
  | [] => rfl
  | x :: xs => by simp [flat_ones xs]
/-- A slice of capacity n without elements. -/
theorem run_make_0 {P : Program} (t e : TypeId) (z : Value) (size bytes : Nat) (ht : P.underlying t = some (.slice e)) (hi : (P.info? e).map (fun i => (i.zero, i.size, i.bytes)) = some (some z, size, bytes)) (hb : bytes ≤ 1000)
    (n : Nat) (hn : n ≤ 100000000) (w : World) : (Instr.makeSlice t (.int .i64 0) (.int .i64 (n : Int))).run P w = .ok (.slice (some ⟨w.heap.size, 0, none⟩) 0 n) (w.alloc (.cells (madeX z.cells (n * size)) e)) := by
  obtain ⟨i, hi, hz0, hz1, hz2⟩ := info_parts hi
  have hle : bytes * n ≤ 100000000000 := Nat.mul_le_mul hb hn
  have hle' : (bytes : Int) * (n : Int) ≤ 281474976710656 := by rw [← Int.natCast_mul]; omega
  have hr := run_make (P := P) w t e i z ht hi hz0 .i64 .i64 0 n (by omega) (by omega) (by rw [hz2]; exact hle') (by omega)
  simp only [Int.toNat_natCast] at hr
  rw [show (0 : Int).toNat = 0 from rfl] at hr
  rw [hr, hz1]
  rfl
set_option maxRecDepth 100000 in
set_option maxHeartbeats 2000000 in
theorem joined_any (a : Option Addr) (n c : Nat) (xs : List Pc) (w : World) (ha : InPc w a n xs) (hn : n ≤ 2400000) (h0 : ∀ x ∈ xs, Dl.chkL [x] = 0) (h1 : Dl.OkL xs) (h2 : Dl.inl xs ≤ 2000000) (h3 : Dl.oul xs ≤ 2000000) :
    Calls Tryz.prog 97 #[.slice a n c] w fun e w' => ∃ v, e = .returned (.tuple #[v, .int .i64 (if Dl.chkL (Dl.form xs) = 0 then 0 else 5)]) ∧ MadeP w.heap.size w' v (if Dl.chkL (Dl.form xs) = 0 then Dl.form xs else []) ∧ Ch (fun _ => False) w w' := by
  obtain ⟨i1, hi1, hy0, hy1, hy2⟩ := info_parts (show (Tryz.prog.info? 77).map (fun i => (i.zero, i.size, i.bytes)) = some (some (Value.slice none 0 0), 1, 24) by kernel_rfl)
  have HA := hid ha
  have HL := hid ha.1
  have H0 := hid h0
  have H1 := hid h1
  have H2 := hid h2
  have H3 := hid h3
  clear ha h0 h1 h2 h3
  obtain ⟨Z, hZ⟩ : ∃ Z : Int, Z = if Dl.chkL (Dl.form xs) = 0 then 0 else 5 := ⟨_, rfl⟩
  obtain ⟨R, hR⟩ : ∃ R : List Pc, R = if Dl.chkL (Dl.form xs) = 0 then Dl.form xs else [] := ⟨_, rfl⟩
  rw [← hZ, ← hR]
  have HZR := hid (And.intro hZ hR)
  clear hZ hR
  have hmk := fun W : World => run_make_0 (P := Tryz.prog) 211 77 (.slice none 0 0) 1 24 Tryz.underlying211 (by kernel_rfl) (by decide) n (by omega) W
  go_enter Tryz.func97, Tryz.ntmps97
  go_wp2_with fail
  go_loopw [4, 12] (fun v i W => ∃ (k g d : Nat) (bs : List Nat), k ≤ n ∧ i = .int .i64 (k : Int) ∧ bs.length = k ∧ v = .slice (some ⟨g, 0, none⟩) k d ∧ W.ownsRow w.heap.size 77 1 v k (bs.map sgV) ∧ (∀ (j b : Nat) (x : Pc), bs[j]? = some b → xs[j]? = some x → Blk W b 128 x.cells.toArray) ∧ Ch (fun _ => False) w W) (fun _ i _ => n - (intOf i).toNat)
  case atStart => exact ⟨0, w.heap.size, n, [], Nat.zero_le _, rfl, rfl, rfl, World.ownsRow_made w _ n (Nat.le_refl _) (by unfold maxLen; omega) (by simp [madeX_size]), fun j b x hb => by simp at hb, (Ch.refl _ _).alloc _⟩
  case round =>
    obtain ⟨k, g, d, bs, hk, rfl, hbs, rfl, hown, hbl, hC⟩ := hrel
    by_cases hlt : k < n
    · have d1 : decide ((k : Int) < (n : Int)) = true := decide_eq_true (by omega)
      have d2 : decide (k < n) = true := decide_eq_true hlt
      obtain ⟨p, hp⟩ : ∃ p, xs[k]? = some p := ⟨xs[k]'(by rw [HL.out]; exact hlt), List.getElem?_eq_getElem _⟩
      obtain ⟨b, off, hab, _, hcell⟩ := HA.out.2 (by omega)
      subst hab
      have hcc : ∀ j v, p.cells[j]? = some v → wr.cell? ⟨b, off + (k * 3 + j), none⟩ = some v := fun j v hv => (hC.cell (p := ⟨b, off + (k * 3 + j), none⟩) (World.block_lt_of_cell? w _ (hcell k j p v hp hv)) id).trans (hcell k j p v hp hv)
      have c0 : wr.cell? ⟨b, off + k * 3, none⟩ = some (.int .u8 p.k) := hcc 0 _ rfl
      have c1 : wr.cell? ⟨b, off + k * 3 + 1, none⟩ = some (.int .i64 p.n) := hcc 1 _ rfl
      have c2 : wr.cell? ⟨b, off + k * 3 + 2, none⟩ = some (.string p.s) := hcc 2 _ rfl
      have HP := hid hp
      have HO := hid hown
      have HBL := hid hbl
      have HC := hid hC
      have HS := hid hbs
      have hw1 : (wr.alloc (.cells p.cells.toArray 128)).heap.size = wr.heap.size + 1 := by simp
      have hw2 : ((wr.alloc (.cells p.cells.toArray 128)).alloc (.cells p.cells.toArray 128)).heap.size = wr.heap.size + 1 + 1 := by simp
      clear hcell hcc hp hown hbl hC hbs
      go_wp2_with (at_builtin; refine wpList_app _ rfl (.tmp 16) (.tmp 19) 211 rfl w.heap.size 77 i1 _ 1 24 Tryz.underlying211 hi1 hy0 hy1 hy2 rfl (by decide) (.slice (some ⟨g, 0, none⟩) k d) k (bs.map sgV) rfl (((HO.out.alloc (.cells p.cells.toArray 128)).alloc (.cells p.cells.toArray 128)).alloc (.cells #[sgV (wr.heap.size + 1)] 77)) ⟨wr.heap.size + 1 + 1, 0, none⟩ 1 1 [sgV (wr.heap.size + 1)] rfl rfl ?c1 ?c2 (by decide) ?c3 ?c4 ?c5 ?c6)
      case c1 => intro j u hu; rw [addr_add0, ← hw2]; exact (Blk.cell (Blk.new _ 77 #[sgV (wr.heap.size + 1)]) j).trans (by simpa using hu)
      case c2 => exact fun u hu => sg_one [wr.heap.size + 1] u (by simpa using hu)
      case c3 => unfold maxLen; omega
      case c4 => omega
      case c5 => exact Nat.le_trans HC.out.size (by simp; omega)
      case c6 =>
        intro v' w9 hown hgrow hfresh
        obtain ⟨g', cg, hgv, hcg, _⟩ := own_form hown (by omega)
        subst hgv
        have HO9 := hid hown
        have HG9 := hid hgrow
        have C3 := hid ((((Ch.refl (fun _ => False) wr).alloc (.cells p.cells.toArray 128)).alloc (.cells p.cells.toArray 128)).alloc (.cells #[sgV (wr.heap.size + 1)] 77))
        have HGB := hid ((HO.out.lt g rfl).1)
        clear hown hgrow hfresh c0 c1 c2
        go_wp2_with fail
        go_roundw
        case rel =>
          refine ⟨k + 1, g', cg, bs ++ [wr.heap.size + 1], by omega, by go_num, by rw [List.length_append, HS.out]; rfl, rfl, by rw [List.map_append]; exact HO9.out, fun j b' x hb hx => ?_, ?_⟩
          · have hbk : Blk (((wr.alloc (.cells p.cells.toArray 128)).alloc (.cells p.cells.toArray 128)).alloc (.cells #[sgV (wr.heap.size + 1)] 77)) b' 128 x.cells.toArray := by
              rw [List.getElem?_append] at hb
              split at hb
              · exact C3.out.blk (HBL.out j b' x hb hx) id
              · rename_i hj
                have hj2 : j = k := by
                  have := (List.getElem?_eq_some_iff.1 hb).1
                  have := HS.out
                  simp at *
                  omega
                subst hj2
                rw [HP.out] at hx
                injection hx with hx
                subst hx
                rw [HS.out, Nat.sub_self] at hb
                simp at hb
                subst hb
                rw [← hw1]
                exact ((Ch.refl (fun _ => False) _).alloc _).blk (Blk.new (wr.alloc (.cells p.cells.toArray 128)) _ _) id
            refine hbk.grown HG9.out (fun e => ?_)
            have e2 := Blk.own hbk ((((HO.out.alloc (.cells p.cells.toArray 128)).alloc (.cells p.cells.toArray 128)).alloc (.cells #[sgV (wr.heap.size + 1)] 77))) (by decide)
            exact e2 e
          · refine Ch.grown (HC.out.trans C3.out (fun _ _ h => h)) HG9.out (fun q hq hlt2 => ?_)
            simp [Value.ownBlock] at hq
            have := HGB.out
            omega
        case measure => simp [intOf]; omega
    · obtain rfl : k = n := by omega
      have d1 : decide ((k : Int) < (k : Int)) = false := decide_eq_false (by omega)
      have HI := hid (show InPcs wr g 0 k (xs.map fun x => [x]) from ⟨by rw [List.length_map, HL.out], fun j hj => by
        obtain ⟨p, hp⟩ : ∃ p, xs[j]? = some p := ⟨xs[j]'(by rw [HL.out]; exact hj), List.getElem?_eq_getElem _⟩
        obtain ⟨b, hb⟩ : ∃ b, bs[j]? = some b := ⟨bs[j]'(by rw [hbs]; exact hj), List.getElem?_eq_getElem _⟩
        have e : (xs.map fun x => [x]).getD j [] = [p] := by simp [List.getD, hp]
        rw [e]
        refine ⟨sgV b, ?_, ⟨some ⟨b, 0, none⟩, 1, rfl, by simp, fun _ => ⟨b, 0, rfl, fun i u hu => ?_⟩⟩⟩
        · have t := hown.cells (g := g) rfl j (sgV b) (by simp [hb])
          rw [addr_add0] at t
          rw [Nat.zero_add]
          exact t
        · rw [Nat.zero_add]
          rw [(hbl j b p hb hp).cell i]
          simpa [pcCells] using hu⟩)
      have HZ := hid (show ∀ j, j < k → Dl.chkL ((xs.map fun x => [x]).getD j []) = 0 from fun j hj => by
        obtain ⟨p, hp⟩ : ∃ p, xs[j]? = some p := ⟨xs[j]'(by rw [HL.out]; exact hj), List.getElem?_eq_getElem _⟩
        have e : (xs.map fun x => [x]).getD j [] = [p] := by simp [List.getD, hp]
        rw [e]
        exact H0.out p (List.mem_of_getElem? hp))
      have HF := hid (flat_ones xs)
      have HC := hid hC
      clear hown hbl hC hbs
      go_wp2_with fail
      refine (join_any g 0 k d (xs.map fun x => [x]) wr HI.out HZ.out (by rw [HF.out]; exact H1.out) (by rw [HF.out]; exact H2.out) (by rw [HF.out]; exact H3.out) (by rw [HF.out, HL.out]; omega) (by omega)).mono ?_
      rw [HF.out, ← HZR.out.1, ← HZR.out.2]
      rintro e w2 ⟨v2, rfl, hown2, hc2⟩
      have HC2 := hid (HC.out.trans hc2 (fun _ _ h => h))
      have HO2 := hid (own_mono hown2 HC.out.size)
      clear hown2 hc2
      go_wp2_with fail
      go_ret2
      exact ⟨v2, rfl, HO2.out, HC2.out⟩
end Go.Proofs.YtefpabicgefciaaGreat
namespace Go.Proofs.YtefpabicgefciaaGreat
open Go.RowKit
set_option linter.unusedVariables false
set_option linter.unusedSimpArgs false
set_option linter.unusedSectionVars false
set_option maxRecDepth 100000 in
set_option maxHeartbeats 2000000 in
theorem compose_any (a b : Option Addr) (n c m d : Nat) (xs ys : List Pc) (w : World) (ha : InPc w a n xs) (hb : InPc w b m ys) (hn : n < 5000000) (hm : m < 5000000) :
    Calls Tryz.prog 44 #[.slice a n c, .slice b m d] w fun e w' => ∃ v, e = .returned (.tuple #[v, .int .i64 (Dl.cmp xs ys).2]) ∧ MadeP w.heap.size w' v (Dl.cmp xs ys).1 ∧ Ch (fun _ => False) w w' := by
  obtain ⟨r, hr⟩ : ∃ r, r = Dl.cmp xs ys := ⟨_, rfl⟩
  rw [← hr]
  have HR := hid hr
  have HA := hid ha
  have HB := hid hb
  clear ha hb hr
  by_cases hx : Dl.chkL xs = 0
  · have LX := hid (show lenR xs = .tuple #[.int .i64 (Dl.inl xs), .int .i64 (Dl.oul xs), .int .i64 0] from by unfold lenR; rw [if_pos hx])
    have HX := hid hx
    clear hx
    by_cases hy : Dl.chkL ys = 0
    · have LY := hid (show lenR ys = .tuple #[.int .i64 (Dl.inl ys), .int .i64 (Dl.oul ys), .int .i64 0] from by unfold lenR; rw [if_pos hy])
      have HY := hid hy
      clear hy
      obtain ⟨o, ho⟩ : ∃ o, o = Dl.oul xs := ⟨_, rfl⟩
      obtain ⟨i, hi⟩ : ∃ i, i = Dl.inl ys := ⟨_, rfl⟩
      rw [← ho] at LX
      rw [← hi] at LY
      have HO := hid ho
      have HI := hid hi
      clear ho hi
      by_cases hoi : o = i
      · subst hoi
        go_enter Tryz.func44, Tryz.ntmps44
        go_wp2_with fail
        refine (lengths_any a n c xs w HA.out hn).mono ?_
        rintro e w1 ⟨rfl, hc1⟩
        rw [LX.out]
        have C1 := hid hc1
        clear hc1
        go_wp2_with fail
        refine (lengths_any b m d ys w1 (HB.out.keep C1.out (fun _ _ _ _ => id)) hm).mono ?_
        rintro e w2 ⟨rfl, hc2⟩
        rw [LY.out]
        have C2 := hid (C1.out.trans hc2 (fun _ _ h => h))
        clear hc2
        obtain ⟨x1, x2, x3, x4⟩ := Dl.chkL_zero.1 HX.out
        obtain ⟨y1, y2, y3, y4⟩ := Dl.chkL_zero.1 HY.out
        have SX := hid (Dl.sm_of x2 (by omega) (by omega))
        have SY := hid (Dl.sm_of y2 (by omega) (by omega))
        have TX := hid (show Dl.tot xs ≤ 4000000 by have := Dl.tot_le x2; omega)
        have TY := hid (show Dl.tot ys ≤ 4000000 by have := Dl.tot_le y2; omega)
        obtain ⟨p1, p2, p3, p4, p5⟩ := Dl.cmp_prog HX.out HY.out (HO.out.symm.trans HI.out)
        obtain ⟨q1, q2, q3⟩ := Dl.comp_spec _ xs ys 0 (Nat.le_refl _) x2 y2 (HO.out.symm.trans HI.out) (Int.le_refl 0)
        have qo : Dl.oul (Dl.comp xs ys) = Dl.oul ys := by rw [Dl.oul_atoms q1 q2, List.length_map, Dl.atoms_len 0 y2]
        have hlen := Dl.len_le q1
        rw [q3, qo] at hlen
        have HLN := hid (show (Dl.comp xs ys).length ≤ 2400000 by omega)
        have HPQ := hid (show Dl.OkL (Dl.comp xs ys) ∧ (∀ x ∈ Dl.comp xs ys, Dl.chkL [x] = 0) ∧ Dl.inl (Dl.comp xs ys) ≤ 2000000 ∧ Dl.oul (Dl.comp xs ys) ≤ 2000000 from ⟨p1, p2, by omega, by omega⟩)
        have HRR := hid (show r.1 = (if Dl.chkL (Dl.form (Dl.comp xs ys)) = 0 then Dl.form (Dl.comp xs ys) else []) ∧ r.2 = (if Dl.chkL (Dl.form (Dl.comp xs ys)) = 0 then 0 else 5) from by
          rw [HR.out, p5]
          by_cases h : 4096 < (Dl.form (Dl.comp xs ys)).length
          · rw [p3 h, if_pos h]; exact ⟨rfl, rfl⟩
          · rw [p4 h, if_neg h]; exact ⟨rfl, rfl⟩)
        clear x1 x2 x3 x4 y1 y2 y3 y4 p1 p2 p3 p4 p5 q1 q2 q3 qo hlen
        go_wp2_with fail
        refine (composed_any a b n c m d xs ys w2 (HA.out.keep C2.out (fun _ _ _ _ => id)) (HB.out.keep C2.out (fun _ _ _ _ => id)) SX.out SY.out TX.out TY.out).mono ?_
        rintro e w3 ⟨v, rfl, hown, hc3⟩
        obtain ⟨A, cp, rfl, _, _, hin⟩ := own_pc hown
        have C3 := hid (C2.out.trans hc3 (fun _ _ h => h))
        have HIN := hid hin
        obtain ⟨k, hk⟩ : ∃ k, k = (Dl.comp xs ys).length := ⟨_, rfl⟩
        rw [← hk] at HIN HLN ⊢
        clear hown hc3 hin hk
        go_wp2_with fail
        refine (joined_any A k cp _ w3 HIN.out HLN.out HPQ.out.2.1 HPQ.out.1 HPQ.out.2.2.1 HPQ.out.2.2.2).mono ?_
        rw [← HRR.out.1, ← HRR.out.2]
        rintro e w4 ⟨v4, rfl, hown4, hc4⟩
        have C4 := hid (C3.out.trans hc4 (fun _ _ h => h))
        have O4 := hid (own_mono hown4 C3.out.size)
        clear hown4 hc4
        go_wp2_with fail
        go_ret2
        exact ⟨v4, rfl, O4.out, C4.out⟩
      · have b1 : (o != i) = true := bne_iff_ne.2 hoi
        have HRR := hid (show r = ([], 21) from by rw [HR.out]; unfold Dl.cmp; rw [if_neg (by simpa using HX.out), if_neg (by simpa using HY.out), if_pos (by rw [← HO.out, ← HI.out]; exact hoi)])
        clear hoi
        go_enter Tryz.func44, Tryz.ntmps44
        go_wp2_with fail
        refine (lengths_any a n c xs w HA.out hn).mono ?_
        rintro e w1 ⟨rfl, hc1⟩
        rw [LX.out]
        have C1 := hid hc1
        clear hc1
        go_wp2_with fail
        refine (lengths_any b m d ys w1 (HB.out.keep C1.out (fun _ _ _ _ => id)) hm).mono ?_
        rintro e w2 ⟨rfl, hc2⟩
        rw [LY.out]
        have C2 := hid (C1.out.trans hc2 (fun _ _ h => h))
        clear hc2
        go_wp2_with fail
        go_ret2
        rw [HRR.out]
        exact ⟨_, rfl, World.ownsRow_nil _ _ _ _, C2.out⟩
    · obtain ⟨z, hz⟩ : ∃ z, z = Dl.chkL ys := ⟨_, rfl⟩
      have LY := hid (show lenR ys = .tuple #[.int .i64 0, .int .i64 0, .int .i64 z] from by unfold lenR; rw [if_neg hy, hz])
      have HRR := hid (show r = ([], z) from by rw [HR.out, hz]; unfold Dl.cmp; rw [if_neg (by simpa using HX.out), if_pos hy])
      have b1 : (z != 0) = true := bne_iff_ne.2 (by rw [hz]; exact hy)
      clear hz hy
      go_enter Tryz.func44, Tryz.ntmps44
      go_wp2_with fail
      refine (lengths_any a n c xs w HA.out hn).mono ?_
      rintro e w1 ⟨rfl, hc1⟩
      rw [LX.out]
      have C1 := hid hc1
      clear hc1
      go_wp2_with fail
      refine (lengths_any b m d ys w1 (HB.out.keep C1.out (fun _ _ _ _ => id)) hm).mono ?_
      rintro e w2 ⟨rfl, hc2⟩
      rw [LY.out]
      have C2 := hid (C1.out.trans hc2 (fun _ _ h => h))
      clear hc2
      go_wp2_with fail
      go_ret2
      rw [HRR.out]
      exact ⟨_, rfl, World.ownsRow_nil _ _ _ _, C2.out⟩
  · obtain ⟨z, hz⟩ : ∃ z, z = Dl.chkL xs := ⟨_, rfl⟩
    have LX := hid (show lenR xs = .tuple #[.int .i64 0, .int .i64 0, .int .i64 z] from by unfold lenR; rw [if_neg hx, hz])
    have HRR := hid (show r = ([], z) from by rw [HR.out, hz]; unfold Dl.cmp; rw [if_pos hx])
    have b1 : (z != 0) = true := bne_iff_ne.2 (by rw [hz]; exact hx)
    clear hz hx
    go_enter Tryz.func44, Tryz.ntmps44
    go_wp2_with fail
    refine (lengths_any a n c xs w HA.out hn).mono ?_
    rintro e w1 ⟨rfl, hc1⟩
    rw [LX.out]
    have C1 := hid hc1
    clear hc1
    go_wp2_with fail
    go_ret2
    rw [HRR.out]
    exact ⟨_, rfl, World.ownsRow_nil _ _ _ _, C1.out⟩
end Go.Proofs.YtefpabicgefciaaGreat
namespace Go.Proofs.YtefpabicgefciaaGreat
open Go.RowKit
set_option linter.unusedVariables false
set_option linter.unusedSimpArgs false
set_option linter.unusedSectionVars false
/-- A slice of slices of pieces, or an empty one. -/
def InPcsO (w : World) (A : Option Addr) (m : Nat) (L : List (List Pc)) : Prop := m = L.length ∧ ∀ k, k < m → ∃ b off v, A = some ⟨b, off, none⟩ ∧ w.cell? ⟨b, off + k, none⟩ = some v ∧ PcAt w v (L.getD k [])
theorem InPcsO.keep {w w' : World} {A : Option Addr} {m : Nat} {L : List (List Pc)} (h : InPcsO w A m L) (c : Ch (fun _ => False) w w') : InPcsO w' A m L :=
  ⟨h.1, fun k hk => by
    obtain ⟨b, off, v, h0, h1, h2⟩ := h.2 k hk
    exact ⟨b, off, v, h0, (c.cell (p := ⟨b, off + k, none⟩) (World.block_lt_of_cell? w _ h1) id).trans h1, h2.keep c⟩⟩
theorem getD_get {α : Type} (L : List α) (k : Nat) (d : α) (h : k < L.length) : L.getD k d = L[k] := by simp [List.getD, h]
theorem cmp_len (a b : List Pc) : (Dl.cmp a b).1.length ≤ 4096 := by
  unfold Dl.cmp
  split
  · simp
  · split
    · simp
    · split
      · simp
      · split
        · simp
        · rename_i h; exact Nat.le_of_not_lt h
theorem idE_len (n : Int) : (Dl.idE n).1.length ≤ 4096 := by
  unfold Dl.idE Dl.idn
  split
  · simp
  · split
    · simp
    · split <;> simp
theorem allGo_err (l : List (List Pc)) (r : List Pc × Int) (h : r.2 ≠ 0) : Dl.allGo l r = r := by
  cases l with
  | nil => rfl
  | cons d l => unfold Dl.allGo; rw [if_pos h]
set_option maxRecDepth 100000 in
set_option maxHeartbeats 2000000 in
theorem all_any (n : Int) (A : Option Addr) (m mc : Nat) (L : List (List Pc)) (w : World) (h : InPcsO w A m L) (hL : ∀ d ∈ L, d.length < 5000000) (hm : m < 1000000) :
    Calls Tryz.prog 95 #[.int .i64 n, .slice A m mc] w fun e w' => ∃ v, e = .returned (.tuple #[v, .int .i64 (Dl.allE n L).2]) ∧ MadeP w.heap.size w' v (Dl.allE n L).1 ∧ Ch (fun _ => False) w w' := by
  obtain ⟨R, hR⟩ : ∃ R, R = Dl.allE n L := ⟨_, rfl⟩
  rw [← hR]
  have HR := hid hR
  have H := hid h
  have HL := hid hL
  have HI := hid (idE_len n)
  obtain ⟨id0, hid0⟩ : ∃ x, x = Dl.idE n := ⟨_, rfl⟩
  have HID := hid hid0
  rw [← hid0] at HI
  clear h hL hR
  go_enter Tryz.func95, Tryz.ntmps95
  go_wp2_with fail
  refine (identity_any n w).mono ?_
  rw [← HID.out]
  rintro e w1 ⟨v1, rfl, hown, hc1⟩
  have O1 := hid hown
  have C1 := hid hc1
  clear hown hc1 hid0
  go_wp2_with fail
  go_loopw [6, 7, 17] (fun v e i W => ∃ (k : Nat) (r : List Pc × Int), k ≤ m ∧ i = .int .i64 (k : Int) ∧ e = .int .i64 r.2 ∧ MadeP w.heap.size W v r.1 ∧ r.1.length ≤ 4096 ∧ Dl.allGo (L.drop k) r = Dl.allGo L (Dl.idE n) ∧ Ch (fun _ => False) w W) (fun _ _ i _ => m - (intOf i).toNat)
  case atStart => exact ⟨0, id0, Nat.zero_le _, rfl, rfl, O1.out, HI.out, by rw [HID.out]; rfl, C1.out⟩
  case round =>
    obtain ⟨k, r, hk, rfl, rfl, hown, hlen, hgo, hC⟩ := hrel
    obtain ⟨oa, oc, rfl, _, _, hin⟩ := own_pc hown
    obtain ⟨x, hx⟩ : ∃ x, x = r.1.length := ⟨_, rfl⟩
    have hown' := hown
    unfold MadeP at hown'
    rw [← hx] at hin hlen hown' ⊢
    obtain ⟨e, he⟩ : ∃ e, e = r.2 := ⟨_, rfl⟩
    rw [← he]
    have HE := hid he
    have HIN := hid hin
    have HOW := hid hown
    have HGO := hid hgo
    have HC := hid hC
    have HOX := hid (show wr.ownsRow w.heap.size 128 3 (.slice oa x oc) x (pcCells r.1) from hown')
    have HXL := hid hx
    clear hown hown' hgo hC hin hx he
    by_cases hlt : k < m
    · have d1 : decide ((k : Int) < (m : Int)) = true := decide_eq_true (by omega)
      have d2 : decide (k < m) = true := decide_eq_true hlt
      obtain ⟨b, off, v, hab, c1, hat⟩ := (H.out.keep HC.out).2 k hlt
      subst hab
      have hat0 := hat
      obtain ⟨A2, cp2, hv2, hcp2, _⟩ := hat0
      subst hv2
      have HAT := hid hat
      have hly := HL.out (L.getD k []) (by have := H.out.1; rw [getD_get _ _ _ (by omega)]; exact List.getElem_mem _)
      obtain ⟨y, hy⟩ : ∃ y, y = (L.getD k []).length := ⟨_, rfl⟩
      rw [← hy] at c1 HAT hly
      have HDK := hid (show L.drop k = L.getD k [] :: L.drop (k + 1) from by
        have := H.out.1
        rw [getD_get _ _ _ (by omega), List.drop_eq_getElem_cons (by omega)])
      clear hat hcp2 hy
      by_cases he0 : e = 0
      · have b0 : (e != 0) = false := by simp [he0]
        have HE0 := hid he0
        clear he0
        go_wp2_with fail
        refine (compose_any oa A2 x oc y cp2 r.1 (L.getD k []) wr HIN.out HAT.out.in (by omega) hly).mono ?_
        rintro e2 w2 ⟨v2, rfl, hown2, hc2⟩
        have O2 := hid (own_mono hown2 HC.out.size)
        have C2 := hid (HC.out.trans hc2 (fun _ _ h => h))
        clear hown2 hc2 c1
        go_wp2_with fail
        go_roundw
        case rel =>
          refine ⟨k + 1, Dl.cmp r.1 (L.getD k []), hlt, by go_num, rfl, O2.out, cmp_len _ _, ?_, C2.out⟩
          rw [← HGO.out, HDK.out]
          show _ = Dl.allGo (_ :: _) r
          rw [Dl.allGo, if_neg (by rw [← HE.out, HE0.out]; simp)]
        case measure => simp [intOf]; omega
      · have b0 : (e != 0) = true := bne_iff_ne.2 he0
        have HE0 := hid he0
        have HRR := hid (show R = ([], e) from by
          have e3 : Dl.allGo L (Dl.idE n) = r := by rw [← HGO.out]; exact allGo_err _ _ (by rw [← HE.out]; exact HE0.out)
          rw [HR.out]; unfold Dl.allE; rw [e3, ← HE.out, if_pos HE0.out])
        clear he0
        go_wp2_with fail
        go_ret2
        rw [HRR.out]
        exact ⟨_, rfl, World.ownsRow_nil _ _ _ _, HC.out⟩
    · obtain rfl : k = m := by omega
      have d1 : decide ((k : Int) < (k : Int)) = false := decide_eq_false (by omega)
      have HRG := hid (show Dl.allGo L (Dl.idE n) = r from by rw [← HGO.out, List.drop_eq_nil_of_le (by have := H.out.1; omega)]; rfl)
      by_cases he0 : e = 0
      · have b0 : (e != 0) = false := by simp [he0]
        have HE0 := hid he0
        have HRR := hid (show R = r from by
          rw [HR.out]; unfold Dl.allE; rw [HRG.out, if_neg (by rw [← HE.out, HE0.out]; simp)])
        clear he0
        go_wp2_with fail
        go_ret2
        rw [HRR.out, ← HE.out, HE0.out]
        exact ⟨.slice oa x oc, rfl, by (show wr.ownsRow _ _ _ _ r.1.length _; rw [← HXL.out]; exact HOX.out), HC.out⟩
      · have b0 : (e != 0) = true := bne_iff_ne.2 he0
        have HE0 := hid he0
        have HRR := hid (show R = ([], e) from by
          rw [HR.out]; unfold Dl.allE; rw [HRG.out, ← HE.out, if_pos HE0.out])
        clear he0
        go_wp2_with fail
        go_ret2
        rw [HRR.out]
        exact ⟨_, rfl, World.ownsRow_nil _ _ _ _, HC.out⟩
end Go.Proofs.YtefpabicgefciaaGreat
namespace Go.Proofs.YtefpabicgefciaaGreat
open Go.RowKit
set_option linter.unusedVariables false
set_option linter.unusedSimpArgs false
set_option linter.unusedSectionVars false
theorem latest_any (sb n c : Nat) (A : Option Addr) (w : World) (h : w.cell? ⟨sb, 23, none⟩ = some (.slice A (n + 1) c)) (hn : n < 1000) : Calls Tryz.prog 13 #[.pointer (some ⟨sb, 0, none⟩)] w fun e w' => e = .returned (.int .i64 n) ∧ w = w' := by
  go_enter Tryz.func13, Tryz.ntmps13
  go_wp2_with fail
  go_ret
  exact ⟨rfl, rfl⟩
theorem latest_q (sb n c : Nat) (A : Option Addr) (w : World) (h : w.cell? ⟨sb, 23, none⟩ = some (.slice A (n + 1) c)) (hn : n < 1000) (k : Nat) : Calls Tryz.prog 13 #[.pointer (some ⟨sb, 0, none⟩)] (w.drewN k) fun e w'' => e = .returned (.int .i64 n) ∧ ∃ m, w'' = w.drewN m :=
  Calls.quiet_of_same ((latest_any sb n c A (w.drewN k) h hn).mono fun e w' ⟨he, hw⟩ => ⟨he, hw.symm⟩)
/-- What Publish leaves. -/
def PubRes (B sb : Nat) (cs : Array Value) (rv : Value) (n : Nat) (xs : List Value) (x : Rv) (ms : List Mk) (ds : List Pc) (w : World) (e : Ending) (w' : World) : Prop :=
  e = .returned (.tuple #[.int .i64 n, .int .i64 0]) ∧ ∃ mv dv rv', Blk w' sb 134 (cs.setIfInBounds 23 rv') ∧ w'.ownsRow B 79 8 rv' (n + 1) (xs ++ rvCells x mv dv) ∧ w'.ownsRow w.heap.size 263 3 mv ms.length (mkCells ms) ∧ w'.ownsRow w.heap.size 128 3 dv ds.length (pcCells ds) ∧
    Ch (fun k => k = sb ∨ rv.ownBlock = some k) w w' ∧ Fresh w rv rv'
set_option maxRecDepth 100000 in
set_option maxHeartbeats 1000000 in
theorem publish_any (B sb : Nat) (cs : Array Value) (A : Option Addr) (cap n : Nat) (xs : List Value) (last : Int) (x : Rv) (am ad : Option Addr) (n1 c1 n2 c2 : Nat) (ms : List Mk) (ds : List Pc) (w : World)
    (hS : Blk w sb 134 cs) (h23 : cs[23]? = some (.slice A (n + 1) cap)) (hown : w.ownsRow B 79 8 (.slice A (n + 1) cap) (n + 1) xs) (hlast : xs[n * 8]? = some (.int .i64 last)) (hx : last < x.num) (hn : n < 900) (hB : B ≤ w.heap.size)
    (hm : InMk w am n1 ms) (hd : InPc w ad n2 ds) (zm : am = none → c1 = 0) (zd : ad = none → c2 = 0) (h1 : n1 < 1000) (h2 : n2 < 1000) :
    Calls Tryz.prog 47 #[.pointer (some ⟨sb, 0, none⟩), .agg #[.int .i64 x.num, .int .u64 x.at', .int .i64 x.h, .int .i64 x.b, .int .i64 x.r, .int .i64 x.l, .slice am n1 c1, .slice ad n2 c2]] w (PubRes B sb cs (.slice A (n + 1) cap) (n + 1) xs x ms ds w) := by
  obtain ⟨g, cap', hv, hcap, hcm, hBg, hgl⟩ := own_form hown (by omega)
  injection hv with hA _ hc'
  subst hA hc'
  have k23 : w.cell? ⟨sb, 23, none⟩ = some (.slice (some ⟨g, 0, none⟩) (n + 1) cap) := (hS.cell 23).trans h23
  have kl : w.cell? ⟨g, n * 8, none⟩ = some (.int .i64 last) := by
    have := hown.cells (g := g) rfl (n * 8) _ hlast
    rw [addr_add0] at this
    exact this
  have dl : decide (x.num ≤ last) = false := decide_eq_false (by omega)
  have hsl := hS.lt
  have dn : decide (n < n + 1) = true := decide_eq_true (by omega)
  have dn' : decide ((n : Int) < ((n + 1 : Nat) : Int)) = true := decide_eq_true (by omega)
  have H := hid hown
  have HS := hid hS
  have HM := hid hm
  have HD := hid hd
  have HL := hid hlast
  have H23 := hid h23
  clear hown hS hm hd hlast h23
  go_enter Tryz.func47, Tryz.ntmps47
  go_wp2_with fail
  refine at_world fun W1 hW1 => ?_
  have cW : Ch (fun _ => False) w W1 := by rw [hW1]; exact (Ch.refl _ w).alloc _
  have bB : Blk W1 w.heap.size 79 #[.int .i64 x.num, .int .u64 x.at', .int .i64 x.h, .int .i64 x.b, .int .i64 x.r, .int .i64 x.l, .slice am n1 c1, .slice ad n2 c2] := by rw [hW1]; exact Blk.new w _ _
  have HW := hid cW
  have HB := hid bB
  clear hW1 cW bB k23 kl
  have k23 : W1.cell? ⟨sb, 23, none⟩ = some (.slice (some ⟨g, 0, none⟩) (n + 1) cap) := (HW.out.blk HS.out id).cell 23 |>.trans H23.out
  have kl : W1.cell? ⟨g, n * 8, none⟩ = some (.int .i64 last) := by
    have := (HW.out.own H.out (fun _ _ => id)).cells (g := g) rfl (n * 8) _ HL.out
    rw [addr_add0] at this
    exact this
  have k0 : W1.cell? ⟨w.heap.size, 0, none⟩ = some (.int .i64 x.num) := HB.out.cell 0
  go_quiet ((go_at_call 13; exact latest_q sb n cap (some ⟨g, 0, none⟩) W1 k23 (by omega) _))
  go_wp2_with fail
  obtain ⟨i0, hi, hz0, hz1, hz2⟩ := info_parts (show (Tryz.prog.info? 79).map (fun i => (i.zero, i.size, i.bytes)) = some (some (Value.agg #[.int .i64 0, .int .u64 0, .int .i64 0, .int .i64 0, .int .i64 0, .int .i64 0, .slice none 0 0, .slice none 0 0]), 8, 96) by kernel_rfl)
  obtain ⟨S, hS⟩ : ∃ S : Nat → Prop, ∀ k, S k ↔ k = sb := ⟨_, fun _ => Iff.rfl⟩
  have hSp : Mix.Has S sb := (hS _).2 rfl
  have HSS := hid hS
  clear hS
  refine Mix.wp_region_mix S (fun i => ([1, 1, 1, 1, 4, 0, 3, 3, 2, 0, 0, 2] : List Nat).getD i 0) [0, 1, 2, 3, 4, 5, 6, 7, 8, 9, 10, 11] (by kernel_rfl) (by kernel_rfl) ?_
  refine Mix.mix_world fun W2 hW2 => ?_
  have cW2 : Ch (fun _ => False) w W2 := by rw [hW2]; first | exact HW.out | exact HW.out.drewN _
  have bB2 : Blk W2 w.heap.size 79 #[.int .i64 x.num, .int .u64 x.at', .int .i64 x.h, .int .i64 x.b, .int .i64 x.r, .int .i64 x.l, .slice am n1 c1, .slice ad n2 c2] := by rw [hW2]; first | exact HB.out | exact HB.out.drewN _
  have HW2 := hid cW2
  clear hW2 k23 kl k0
  have k23 : W2.cell? ⟨sb, 23, none⟩ = some (.slice (some ⟨g, 0, none⟩) (n + 1) cap) := (HW2.out.blk HS.out id).cell 23 |>.trans H23.out
  have b0 : W2.cell? ⟨w.heap.size, 0, none⟩ = some (.int .i64 x.num) := bB2.cell 0
  have b1 : W2.cell? ⟨w.heap.size, 1, none⟩ = some (.int .u64 x.at') := bB2.cell 1
  have b2 : W2.cell? ⟨w.heap.size, 2, none⟩ = some (.int .i64 x.h) := bB2.cell 2
  have b3 : W2.cell? ⟨w.heap.size, 3, none⟩ = some (.int .i64 x.b) := bB2.cell 3
  have b4 : W2.cell? ⟨w.heap.size, 4, none⟩ = some (.int .i64 x.r) := bB2.cell 4
  have b5 : W2.cell? ⟨w.heap.size, 5, none⟩ = some (.int .i64 x.l) := bB2.cell 5
  have b6 : W2.cell? ⟨w.heap.size, 6, none⟩ = some (.slice am n1 c1) := bB2.cell 6
  have b7 : W2.cell? ⟨w.heap.size, 7, none⟩ = some (.slice ad n2 c2) := bB2.cell 7
  clear bB2 cW2
  repeat (first | (refine Mix.mix_q (by simp only [List.getElem?_toArray, List.getElem?_cons_zero, List.getElem?_cons_succ]; exact rfl) rfl ?_; go_big_quiet_step (fail); refine wpQuiet_nil ?_) | (refine Mix.mix_p (by simp only [List.getElem?_toArray, List.getElem?_cons_zero, List.getElem?_cons_succ]; exact rfl) rfl rfl ?_; go_big_quiet_step (fail); refine wpQuiet_nil ?_) | (refine Mix.mix_s (by simp only [List.getElem?_toArray, List.getElem?_cons_zero, List.getElem?_cons_succ]; exact rfl) rfl rfl ?_; go_big_quiet_step (fail); refine wpQuiet_nil ?_))
  refine Mix.mix_a (by simp only [List.getElem?_toArray, List.getElem?_cons_zero, List.getElem?_cons_succ]; exact rfl) rfl fun W3 hW3 => ?_
  obtain ⟨k1, rfl⟩ := hW3
  go_wp2_with fail
  refine (copied_any x am ad n1 c1 n2 c2 ms ds (W2.drewN k1) (HM.out.keep (HW2.out.drewN k1) (fun _ _ _ _ => id)) (HD.out.keep (HW2.out.drewN k1) (fun _ _ _ _ => id)) zm zd h1 h2).mono ?_
  rintro e w4 ⟨mv, dv, rfl, ho1, ho2, hc⟩
  obtain ⟨ma, mc, hmv, _⟩ := own_slice ho1
  obtain ⟨da, dc, hdv, _⟩ := own_slice ho2
  subst hmv hdv
  have c4 : Ch (fun _ => False) W2 w4 := hc.ofDrewN
  have hkeep : Mix.Keep S W2 w4 := fun k hk => by rw [(HSS.out k).1 hk]; exact c4.block _ (HW2.out.blk HS.out id).lt id
  have HO1 := hid (own_mono ho1 (show w.heap.size ≤ (W2.drewN k1).heap.size from HW2.out.size))
  have HO2 := hid (own_mono ho2 (show w.heap.size ≤ (W2.drewN k1).heap.size from HW2.out.size))
  have HC4 := hid (HW2.out.trans c4 (fun _ _ h => h))
  clear ho1 ho2 hc c4 k23 b0 b1 b2 b3 b4 b5 b6 b7
  simp only [rvA]
  go_wp2_with fail
  refine ⟨hkeep, ?_⟩
  clear hkeep
  repeat (first | (refine Mix.mix_q (by simp only [List.getElem?_toArray, List.getElem?_cons_zero, List.getElem?_cons_succ]; exact rfl) rfl ?_; go_big_quiet_step (fail); refine wpQuiet_nil ?_) | (refine Mix.mix_p (by simp only [List.getElem?_toArray, List.getElem?_cons_zero, List.getElem?_cons_succ]; exact rfl) rfl rfl ?_; go_big_quiet_step (fail); refine wpQuiet_nil ?_) | (refine Mix.mix_s (by simp only [List.getElem?_toArray, List.getElem?_cons_zero, List.getElem?_cons_succ]; exact rfl) rfl rfl ?_; go_big_quiet_step (fail); refine wpQuiet_nil ?_))
  refine Mix.mix_a (by simp only [List.getElem?_toArray, List.getElem?_cons_zero, List.getElem?_cons_succ]; exact rfl) rfl fun W5 hW5 => ?_
  obtain ⟨k2, rfl⟩ := hW5
  go_wp2_with fail
  refine ⟨fun k hk => Below.heap_alloc _ _ k (by rw [(HSS.out k).1 hk]; exact (HC4.out.blk HS.out id).lt), Mix.mix_world fun W6 hW6 => ?_⟩
  have c6 : Ch (fun _ => False) w4 W6 := by rw [hW6]; first | exact Ch.push rfl rfl rfl rfl | exact ((Ch.refl _ w4).drewN k2).alloc _
  have n6 : Blk W6 w4.heap.size 79 #[.int .i64 x.num, .int .u64 x.at', .int .i64 x.h, .int .i64 x.b, .int .i64 x.r, .int .i64 x.l, .slice ma n1 mc, .slice da n2 dc] := by rw [hW6]; first | exact Blk.push rfl | exact Blk.new (w4.drewN k2) _ _
  have HC6 := hid (HC4.out.trans c6 (fun _ _ h => h))
  have HO1b := hid (c6.own HO1.out (fun _ _ => id))
  have HO2b := hid (c6.own HO2.out (fun _ _ => id))
  have HN6 := hid n6
  clear hW6 c6 n6
  repeat (first | (refine Mix.mix_q (by simp only [List.getElem?_toArray, List.getElem?_cons_zero, List.getElem?_cons_succ]; exact rfl) rfl ?_; go_big_quiet_step (fail); refine wpQuiet_nil ?_) | (refine Mix.mix_p (by simp only [List.getElem?_toArray, List.getElem?_cons_zero, List.getElem?_cons_succ]; exact rfl) rfl rfl ?_; go_big_quiet_step (fail); refine wpQuiet_nil ?_) | (refine Mix.mix_s (by simp only [List.getElem?_toArray, List.getElem?_cons_zero, List.getElem?_cons_succ]; exact rfl) rfl rfl ?_; go_big_quiet_step (fail); refine wpQuiet_nil ?_))
  refine Mix.mix_e (by simp only [List.getElem?_toArray, List.getElem?_cons_zero, List.getElem?_cons_succ]; exact rfl) rfl fun W7 hW7 => ?_
  obtain ⟨k3, rfl⟩ := hW7
  refine wpList_app _ rfl (.tmp 24) (.tmp 27) 41 rfl B 79 i0 _ 8 96 Tryz.underlying41 hi hz0 hz1 hz2 rfl (by decide) _ _ _ rfl ((HC6.out.drewN k3).own H.out (fun _ _ => id)) ⟨w4.heap.size, 0, none⟩ 1 1 (rvCells x (.slice ma n1 mc) (.slice da n2 dc)) rfl rfl ?c1 ?c2 (by decide) ?c3 ?c4 ?c5 ?_
  case c1 => intro j u hu; rw [addr_add0]; exact ((HN6.out.drewN k3).cell j).trans (by simpa [rvCells] using hu)
  case c2 =>
    intro u hu
    simp only [rvCells, List.mem_cons, List.not_mem_nil, or_false] at hu
    rcases hu with rfl | rfl | rfl | rfl | rfl | rfl | rfl | rfl <;> rfl
  case c3 => unfold maxLen; omega
  case c4 => omega
  case c5 => exact Nat.le_trans hB HC6.out.size
  intro v' w' hown' hgrow hfresh
  obtain ⟨A', cap', hv', _⟩ := own_slice hown'
  subst hv'
  have hsg : (Value.slice (some ⟨g, 0, none⟩) (n + 1) cap).ownBlock ≠ some sb := HS.out.own H.out (by decide)
  have hO1g : ∀ k, (Value.slice ma n1 mc).ownBlock = some k → (Value.slice (some ⟨g, 0, none⟩) (n + 1) cap).ownBlock ≠ some k := fun k hk e => by
    have h1 := (HO1b.out.lt k hk).1
    have h2 := (H.out.lt k e).2
    omega
  have hO2g : ∀ k, (Value.slice da n2 dc).ownBlock = some k → (Value.slice (some ⟨g, 0, none⟩) (n + 1) cap).ownBlock ≠ some k := fun k hk e => by
    have h1 := (HO2b.out.lt k hk).1
    have h2 := (H.out.lt k e).2
    omega
  have HS' := hid (((HC6.out.drewN k3).blk HS.out id).grown hgrow hsg)
  have HO1' := hid (own_grown ((Ch.refl (fun _ => False) W6).drewN k3 |>.own HO1b.out (fun _ _ => id)) hgrow (fun k hk => hO1g k hk))
  have HO2' := hid (own_grown ((Ch.refl (fun _ => False) W6).drewN k3 |>.own HO2b.out (fun _ _ => id)) hgrow (fun k hk => hO2g k hk))
  have HCw := hid (((HC6.out.mono (fp' := fun k => k = sb ∨ (Value.slice (some ⟨g, 0, none⟩) (n + 1) cap).ownBlock = some k) (fun _ _ h => h.elim)).drewN k3).grown hgrow (fun k hk _ => .inr hk))
  have HOw := hid hown'
  have HF := hid (show Fresh w (.slice (some ⟨g, 0, none⟩) (n + 1) cap) (.slice A' (n + 1 + 1) cap') from hfresh.imp id (fun h k hk => Nat.le_trans HC6.out.size (h k hk)))
  have k23 : w'.cell? ⟨sb, 23, none⟩ = some (.slice (some ⟨g, 0, none⟩) (n + 1) cap) := HS'.out.cell 23 |>.trans H23.out
  have f23 := HS'.out.free 23
  clear hown' hgrow hfresh hO1g hO2g hsg
  go_wp2_with fail
  repeat (first | (refine Mix.mix_q (by simp only [List.getElem?_toArray, List.getElem?_cons_zero, List.getElem?_cons_succ]; exact rfl) rfl ?_; go_big_quiet_step (fail); refine wpQuiet_nil ?_) | (refine Mix.mix_p (by simp only [List.getElem?_toArray, List.getElem?_cons_zero, List.getElem?_cons_succ]; exact rfl) rfl rfl ?_; go_big_quiet_step (fail); refine wpQuiet_nil ?_) | (refine Mix.mix_s (by simp only [List.getElem?_toArray, List.getElem?_cons_zero, List.getElem?_cons_succ]; exact rfl) rfl rfl ?_; go_big_quiet_step (fail); refine wpQuiet_nil ?_))
  refine Mix.mix_e (by simp only [List.getElem?_toArray, List.getElem?_cons_zero, List.getElem?_cons_succ]; exact rfl) rfl fun W8 hW8 => ?_
  obtain ⟨k4, rfl⟩ := hW8
  go_wp2_with fail
  intro k5
  go_wp2_with fail
  refine calls_world fun W9 hW9 => ?_
  have B9 : Blk W9 sb 134 (cs.setIfInBounds 23 (.slice A' (n + 1 + 1) cap')) := by rw [hW9]; exact ((HS'.out.drewN k4).put 23 _).drewN k5
  have c9 : Ch (fun k => k = sb) w' W9 := by rw [hW9]; exact (((Ch.refl (fun k => k = sb) w').drewN k4).set (fun _ => rfl) _).drewN k5
  have q9 : W9.cell? ⟨sb, 23, none⟩ = some (.slice A' (n + 1 + 1) cap') := (B9.cell 23).trans (by
    have := (Array.getElem?_eq_some_iff.1 H23.out).1
    simp [Array.getElem?_setIfInBounds, this])
  have o0 := HS'.out.own HOw.out (by decide)
  have o1 := HS'.out.own HO1'.out (by decide)
  have o2 := HS'.out.own HO2'.out (by decide)
  have P9 := hid (show PubRes B sb cs (.slice (some ⟨g, 0, none⟩) (n + 1) cap) (n + 1) xs x ms ds w (.returned (.tuple #[.int .i64 (n + 1 : Nat), .int .i64 0])) W9 from
    ⟨rfl, _, _, _, B9, c9.own HOw.out (fun k hk e => o0 (by rw [hk, e])), by rw [HM.out.1]; exact c9.own HO1'.out (fun k hk e => o1 (by rw [hk, e])), by rw [HD.out.1]; exact c9.own HO2'.out (fun k hk e => o2 (by rw [hk, e])), HCw.out.trans c9 (fun _ _ e => .inl e), HF.out⟩)
  clear hW9 B9 c9 o0 o1 o2 k23 f23
  refine (latest_any sb (n + 1) cap' A' W9 q9 (by omega)).mono ?_
  rintro e _ ⟨rfl, rfl⟩
  go_wp2_with fail
  go_ret2
  exact P9.out
set_option maxRecDepth 100000 in
set_option maxHeartbeats 1000000 in
theorem revision_any (B sb : Nat) (cs : Array Value) (A : Option Addr) (cap N p : Nat) (xs : List Value) (x : Rv) (am ad : Option Addr) (n1 c1 n2 c2 : Nat) (ms : List Mk) (ds : List Pc) (w : World)
    (hS : Blk w sb 134 cs) (h23 : cs[23]? = some (.slice A N cap)) (hown : w.ownsRow B 79 8 (.slice A N cap) N xs) (hp : p < N) (hN : N < 1000) (hx : ∀ (j : Nat) (v : Value), (rvCells x (.slice am n1 c1) (.slice ad n2 c2))[j]? = some v → xs[p * 8 + j]? = some v)
    (hm : InMk w am n1 ms) (hd : InPc w ad n2 ds) (zm : am = none → c1 = 0) (zd : ad = none → c2 = 0) (h1 : n1 < 1000) (h2 : n2 < 1000) :
    Calls Tryz.prog 29 #[.pointer (some ⟨sb, 0, none⟩), .int .i64 p] w fun e w' => ∃ mv dv, e = .returned (.tuple #[.agg (rvA x mv dv), .int .i64 0]) ∧ w'.ownsRow w.heap.size 263 3 mv n1 (mkCells ms) ∧ w'.ownsRow w.heap.size 128 3 dv n2 (pcCells ds) ∧ Ch (fun _ => False) w w' := by
  obtain ⟨g, cap', hv, hcap, hcm, hBg, hgl⟩ := own_form hown (by omega)
  injection hv with hA _ hc'
  subst hA hc'
  have d1 : decide ((p : Int) < 0) = false := decide_eq_false (by omega)
  have d2 : decide (N ≤ p) = false := decide_eq_false (by omega)
  have d2' : decide ((N : Int) ≤ (p : Int)) = false := decide_eq_false (by omega)
  have d3 : decide (p < N) = true := decide_eq_true hp
  have d3' : decide ((p : Int) < (N : Int)) = true := decide_eq_true (by omega)
  have kc : ∀ (j : Nat) (v : Value), (rvCells x (.slice am n1 c1) (.slice ad n2 c2))[j]? = some v → w.cell? ⟨g, p * 8 + j, none⟩ = some v := fun j v hj => by
    have := hown.cells (g := g) rfl (p * 8 + j) v (hx j v hj)
    rw [addr_add0] at this
    exact this
  have HS := hid hS
  have H := hid hown
  have HM := hid hm
  have HD := hid hd
  have HK := hid kc
  have H23 := hid h23
  have hsl := hS.lt
  have k23 : w.cell? ⟨sb, 23, none⟩ = some (.slice (some ⟨g, 0, none⟩) N cap) := (hS.cell 23).trans h23
  have b0 : w.cell? ⟨g, p * 8, none⟩ = some (.int .i64 x.num) := kc 0 _ rfl
  have b1 : w.cell? ⟨g, p * 8 + 1, none⟩ = some (.int .u64 x.at') := kc 1 _ rfl
  have b2 : w.cell? ⟨g, p * 8 + 2, none⟩ = some (.int .i64 x.h) := kc 2 _ rfl
  have b3 : w.cell? ⟨g, p * 8 + 3, none⟩ = some (.int .i64 x.b) := kc 3 _ rfl
  have b4 : w.cell? ⟨g, p * 8 + 4, none⟩ = some (.int .i64 x.r) := kc 4 _ rfl
  have b5 : w.cell? ⟨g, p * 8 + 5, none⟩ = some (.int .i64 x.l) := kc 5 _ rfl
  have b6 : w.cell? ⟨g, p * 8 + 6, none⟩ = some (.slice am n1 c1) := kc 6 _ rfl
  have b7 : w.cell? ⟨g, p * 8 + 7, none⟩ = some (.slice ad n2 c2) := kc 7 _ rfl
  clear hS hown hm hd kc h23 hx HK
  go_enter Tryz.func29, Tryz.ntmps29
  go_wp2_with fail
  refine calls_world fun W1 hW1 => ?_
  have cW : Ch (fun _ => False) w W1 := by rw [hW1]; exact (Ch.refl _ w).alloc _
  have bR : Blk W1 w.heap.size 79 #[.int .i64 0, .int .u64 0, .int .i64 0, .int .i64 0, .int .i64 0, .int .i64 0, .slice none 0 0, .slice none 0 0] := by rw [hW1]; exact Blk.new w _ _
  have HW := hid cW
  have HB := hid bR
  clear hW1 cW bR k23 b0 b1 b2 b3 b4 b5 b6 b7
  refine (copied_any x am ad n1 c1 n2 c2 ms ds W1 (HM.out.keep HW.out (fun _ _ _ _ => id)) (HD.out.keep HW.out (fun _ _ _ _ => id)) zm zd h1 h2).mono ?_
  rintro e w4 ⟨mv, dv, rfl, ho1, ho2, hc⟩
  obtain ⟨ma, mc, hmv, _⟩ := own_slice ho1
  obtain ⟨da, dc, hdv, _⟩ := own_slice ho2
  subst hmv hdv
  have HO1 := hid (own_mono ho1 HW.out.size)
  have HO2 := hid (own_mono ho2 HW.out.size)
  have HC4 := hid (HW.out.trans hc (fun _ _ h => h))
  have R4 := hc.blk HB.out id
  have r0 : w4.cell? ⟨w.heap.size, 0, none⟩ = some (.int .i64 0) := R4.cell 0
  have r1 : w4.cell? ⟨w.heap.size, 1, none⟩ = some (.int .u64 0) := R4.cell 1
  have r2 : w4.cell? ⟨w.heap.size, 2, none⟩ = some (.int .i64 0) := R4.cell 2
  have r3 : w4.cell? ⟨w.heap.size, 3, none⟩ = some (.int .i64 0) := R4.cell 3
  have r4 : w4.cell? ⟨w.heap.size, 4, none⟩ = some (.int .i64 0) := R4.cell 4
  have r5 : w4.cell? ⟨w.heap.size, 5, none⟩ = some (.int .i64 0) := R4.cell 5
  have r6 : w4.cell? ⟨w.heap.size, 6, none⟩ = some (.slice none 0 0) := R4.cell 6
  have r7 : w4.cell? ⟨w.heap.size, 7, none⟩ = some (.slice none 0 0) := R4.cell 7
  have s0 := R4.free 0
  have s1 := R4.free 1
  have s2 := R4.free 2
  have s3 := R4.free 3
  have s4 := R4.free 4
  have s5 := R4.free 5
  have s6 := R4.free 6
  have s7 := R4.free 7
  clear ho1 ho2 hc
  simp only [rvA]
  go_wp2_with fail
  refine at_world fun W7 hW7 => ?_
  have R7 : Blk W7 w.heap.size 79 #[.int .i64 x.num, .int .u64 x.at', .int .i64 x.h, .int .i64 x.b, .int .i64 x.r, .int .i64 x.l, .slice ma n1 mc, .slice da n2 dc] := by
    rw [hW7]; exact (((((((R4.put 0 _).put 1 _).put 2 _).put 3 _).put 4 _).put 5 _).put 6 _).put 7 _
  have c7 : Ch (fun k => k = w.heap.size) w4 W7 := by
    rw [hW7]; exact ((((((((Ch.refl (fun k => k = w.heap.size) w4).set (fun _ => rfl) _).set (fun _ => rfl) _).set (fun _ => rfl) _).set (fun _ => rfl) _).set (fun _ => rfl) _).set (fun _ => rfl) _).set (fun _ => rfl) _).set (fun _ => rfl) _
  have o1 := R4.own HO1.out (by decide)
  have o2 := R4.own HO2.out (by decide)
  have t0 : W7.cell? ⟨w.heap.size, 0, none⟩ = some (.int .i64 x.num) := R7.cell 0
  have t1 : W7.cell? ⟨w.heap.size, 1, none⟩ = some (.int .u64 x.at') := R7.cell 1
  have t2 : W7.cell? ⟨w.heap.size, 2, none⟩ = some (.int .i64 x.h) := R7.cell 2
  have t3 : W7.cell? ⟨w.heap.size, 3, none⟩ = some (.int .i64 x.b) := R7.cell 3
  have t4 : W7.cell? ⟨w.heap.size, 4, none⟩ = some (.int .i64 x.r) := R7.cell 4
  have t5 : W7.cell? ⟨w.heap.size, 5, none⟩ = some (.int .i64 x.l) := R7.cell 5
  have t6 : W7.cell? ⟨w.heap.size, 6, none⟩ = some (.slice ma n1 mc) := R7.cell 6
  have t7 : W7.cell? ⟨w.heap.size, 7, none⟩ = some (.slice da n2 dc) := R7.cell 7
  refine bodyPost_ret (v := .tuple #[.agg (rvA x (.slice ma n1 mc) (.slice da n2 dc)), .int .i64 0]) ?_ rfl ⟨_, _, rfl, c7.own HO1.out (fun k hk e => o1 (by rw [hk, e])), c7.own HO2.out (fun k hk e => o2 (by rw [hk, e])), HC4.out.trans c7 (fun i hi e => absurd hi (by omega))⟩
  clear hW7 c7 o1 o2
  simp [results, Tryz.results29, go_sem, rvA, t0, t1, t2, t3, t4, t5, t6, t7]
end Go.Proofs.YtefpabicgefciaaGreat
namespace Go.Proofs.YtefpabicgefciaaGreat
open Go.RowKit Go.ChangeShapes Go.WideShapes Go.Deep
set_option linter.unusedVariables false
/-- A value of a plain kind: string, bool, an integer kind. -/
def fitsS : Option (Option IntKind) → Value → Prop
  | none, v => ∃ s : ByteArray, v = .string s ∧ s.size ≤ maxLen
  | some none, v => ∃ b, v = .bool b
  | some (some k), v => ∃ n, v = .int k n ∧ (Lit.int k n).wf = true
def FitsS (ks : List (Option (Option IntKind))) (vs : List Value) : Prop := vs.length = ks.length ∧ ∀ (j : Nat) (k : Option (Option IntKind)), ks[j]? = some k → ∃ v, vs[j]? = some v ∧ fitsS k v
/-- A slice of such structs that came in. -/
def InRowsS (ks : List (Option (Option IntKind))) (w : World) (a : Option Addr) (len : Nat) (ls : List (List Value)) : Prop :=
  ls.length = len ∧ (∀ vs ∈ ls, FitsS ks vs) ∧ (0 < len → ∃ b off, a = some ⟨b, off, none⟩ ∧ b < w.heap.size ∧ ∀ i j vs v, ls[i]? = some vs → vs[j]? = some v → w.cell? ⟨b, off + (i * ks.length + j), none⟩ = some v)
def fieldsSB (P : Program) (fs : Array Field) (ks : List (Option (Option IntKind))) : Bool :=
  fs.size == ks.length && (List.range ks.length).all fun j => match fs[j]?, ks[j]? with
    | some f, some k => f.offset == j && P.cellsOf f.type == 1 && (match P.underlying f.type, k with | some (.int k'), some (some k) => k' == k | some .bool, some none => true | some .string, none => true | _, _ => false)
    | _, _ => false
section
variable {H : Type} {enc : TypeId × Value → H} {P : Program} {w : World} {base : Nat} {spare : Nat → Bool} {held : Bool}
theorem fitsS_of_trod {e : TypeId} {fs : Array Field} {ks : List (Option (Option IntKind))} {n : Nat} {cs : List Value} {x : DataW H × List MemPlace} (he : P.underlying e = some (.struct fs)) (hB : fieldsSB P fs ks = true)
    (hC : P.cellsOf e = ks.length) (h : DataW.trod enc P w base spare held n e cs = some x) : FitsS ks cs := by
  obtain ⟨xs, m, _, _, hcl, hxl, hf⟩ := DataW.trod_struct he h
  simp only [fieldsSB, Bool.and_eq_true, beq_iff_eq, List.all_eq_true, List.mem_range] at hB
  obtain ⟨hsz, hB⟩ := hB
  refine ⟨by rw [hcl, hC], fun j k hk => ?_⟩
  have hj : j < ks.length := (List.getElem?_eq_some_iff.1 hk).1
  have hB' := hB j hj
  obtain ⟨f, hfj⟩ : ∃ f, fs[j]? = some f := ⟨_, Array.getElem?_eq_getElem (by omega)⟩
  rw [hfj, hk] at hB'
  simp only [Bool.and_eq_true, beq_iff_eq] at hB'
  obtain ⟨⟨ho, hc1⟩, hk'⟩ := hB'
  have h1 := hf j f hfj
  have hjc : j < cs.length := by rw [hcl, hC]; exact hj
  rw [ho, hc1, List.drop_eq_getElem_cons hjc] at h1
  simp only [List.take_succ_cons, List.take_zero] at h1
  have hxj : xs[j]? = some (xs[j]'(by omega)) := List.getElem?_eq_getElem (by omega)
  rw [hxj] at h1
  refine ⟨cs[j], List.getElem?_eq_getElem hjc, ?_⟩
  cases hu : P.underlying f.type with
  | none => rw [hu] at hk'; simp at hk'
  | some td =>
    rw [hu] at hk'
    match k, td, hk' with
    | some (some k), .int k', hk' =>
      simp at hk'
      subst hk'
      obtain ⟨n, hn, _, hw⟩ := DataW.trod_int hu h1
      simp at hn
      exact ⟨n, hn, hw⟩
    | some none, .bool, _ =>
      obtain ⟨b, hb, _⟩ := DataW.trod_bool hu h1
      simp at hb
      exact ⟨b, hb⟩
    | none, .string, _ =>
      obtain ⟨s, hs, _, hl⟩ := DataW.trod_string hu h1
      simp at hs
      exact ⟨s, hs, hl⟩
theorem in_rowsS {t e : TypeId} {fs : Array Field} {ks : List (Option (Option IntKind))} {a : Option Addr} {len cap : Nat} {d : DataW H} {p : List MemPlace} (ht : P.underlying t = some (.slice e)) (he : P.underlying e = some (.struct fs))
    (hB : fieldsSB P fs ks = true) (hC : P.cellsOf e = ks.length) (hpos : 0 < ks.length) (h : DataW.Trod enc P w base spare held t (.slice a len cap) d p) : ∃ ls, InRowsS ks w a len ls := by
  obtain ⟨fuel, hf⟩ := h
  rcases open_slice ht hf with ⟨hcs, _⟩ | ⟨x, l, c, m, n, D, Pl, hcs, _, hl, hm, hmm, _, hi⟩
  · simp [Value.cells] at hcs
    obtain ⟨rfl, rfl, rfl⟩ := hcs
    exact ⟨[], rfl, by simp, fun h => absurd h (by omega)⟩
  · simp [Value.cells] at hcs
    obtain ⟨rfl, rfl, rfl⟩ := hcs
    have hlm : len ≤ m := by rw [hmm]; split <;> omega
    have hall : ∀ i, i < len → ∃ vs : List Value, FitsS ks vs ∧ ∀ j v, vs[j]? = some v → w.cell? (x.add (i * ks.length + j)) = some v := by
      intro i hil
      obtain ⟨cs', hc, htr⟩ := hi i (by omega)
      have hfit := fitsS_of_trod he hB hC htr
      rw [hC] at hc
      obtain ⟨_, hcl, hat⟩ := World.cells?_some hc
      refine ⟨cs', hfit, fun j v hv => ?_⟩
      have hj : j < ks.length := by have := (List.getElem?_eq_some_iff.1 hv).1; have := hfit.1; omega
      have := hat j hj
      rw [← Go.Deep.add_add, this, hv]
    obtain ⟨ls, hls, hr⟩ := exists_list (R := fun i vs => FitsS ks vs ∧ ∀ j v, vs[j]? = some v → w.cell? (x.add (i * ks.length + j)) = some v) len hall
    refine ⟨ls, hls, fun vs hvs => ?_, fun h0 => ?_⟩
    · obtain ⟨i, hi'⟩ := List.getElem?_of_mem hvs
      exact (hr i vs hi').1
    · have h1 : ls[0]? = some (ls[0]'(by omega)) := List.getElem?_eq_getElem (by omega)
      have hf0 := (hr 0 _ h1).1
      have hv0 : (ls[0]'(by omega))[0]? = some ((ls[0]'(by omega))[0]'(by rw [hf0.1]; exact hpos)) := List.getElem?_eq_getElem _
      have hc0 := (hr 0 _ h1).2 0 _ hv0
      have hs := World.cell?_spot hc0
      obtain ⟨b, off, spot⟩ := x
      have hs' : spot = none := by simpa [Addr.add] using hs
      subst hs'
      refine ⟨b, off, rfl, ?_, fun i j vs v hvs hv => ?_⟩
      · have := World.block_lt_of_cell? w _ hc0
        simpa [Addr.add] using this
      · have := (hr i vs hvs).2 j v hv
        rwa [addr_add] at this
end
end Go.Proofs.YtefpabicgefciaaGreat
namespace Go.Proofs.YtefpabicgefciaaGreat
open Go.RowKit Go.ChangeShapes Go.WideShapes Go.Deep
set_option linter.unusedVariables false
set_option linter.unusedSimpArgs false
/-- A plain kind; or a slice of structs of plain kinds. -/
abbrev K0 := Option (Option IntKind)
abbrev K1 := K0 ⊕ List K0
section
variable {H : Type} {enc : TypeId × Value → H} {P : Program} {w : World} {base : Nat} {spare : Nat → Bool} {held : Bool}
end
end Go.Proofs.YtefpabicgefciaaGreat
namespace Go.Proofs.YtefpabicgefciaaGreat
open Go.RowKit
set_option linter.unusedVariables false
set_option linter.unusedSimpArgs false
set_option linter.unusedSectionVars false
/-- A revision that came in. -/
structure InV where
  x : Rv
  am : Option Addr
  n1 : Nat
  c1 : Nat
  ms : List Mk
  ad : Option Addr
  n2 : Nat
  c2 : Nat
  ds : List Pc
def InV.cells (r : InV) : List Value := rvCells r.x (.slice r.am r.n1 r.c1) (.slice r.ad r.n2 r.c2)
def InV.ok (w : World) (r : InV) : Prop := InMk w r.am r.n1 r.ms ∧ InPc w r.ad r.n2 r.ds
/-- The revisions that came in. -/
def InRevs (w : World) (a : Option Addr) (n : Nat) (l : List InV) : Prop :=
  l.length = n ∧ (∀ r ∈ l, r.ok w) ∧ (0 < n → ∃ b off, a = some ⟨b, off, none⟩ ∧ b < w.heap.size ∧ ∀ (i j : Nat) (r : InV) v, l[i]? = some r → r.cells[j]? = some v → w.cell? ⟨b, off + (i * 8 + j), none⟩ = some v)
theorem fits3 {ks : List K0} {vs : List Value} (k0 k1 k2 : K0) (hk : ks = [k0, k1, k2]) (h : FitsS ks vs) : ∃ a b c, vs = [a, b, c] ∧ fitsS k0 a ∧ fitsS k1 b ∧ fitsS k2 c := by
  subst hk
  obtain ⟨hl, hv⟩ := h
  obtain ⟨a, ha, fa⟩ := hv 0 _ rfl
  obtain ⟨b, hb, fb⟩ := hv 1 _ rfl
  obtain ⟨c, hc, fc⟩ := hv 2 _ rfl
  match vs, hl with
  | [x, y, z], _ =>
    simp at ha hb hc
    exact ⟨a, b, c, by rw [ha, hb, hc], fa, fb, fc⟩
theorem InRevs.keep {w w' : World} {a : Option Addr} {n : Nat} {l : List InV} (h : InRevs w a n l) (c : Ch (fun _ => False) w w') : InRevs w' a n l :=
  ⟨h.1, fun r hr => ⟨(h.2.1 r hr).1.keep c (fun _ _ _ _ => id), (h.2.1 r hr).2.keep c (fun _ _ _ _ => id)⟩, fun h0 => by
    obtain ⟨b, off, rfl, hb, hc⟩ := h.2.2 h0
    exact ⟨b, off, rfl, Nat.lt_of_lt_of_le hb c.size, fun i j r v hi hj => (c.cell (p := ⟨b, _, none⟩) hb id).trans (hc i j r v hi hj)⟩⟩
end Go.Proofs.YtefpabicgefciaaGreat
