/- The limbo: NewLimbo, Handles, Due, Retire. -/
import Derived.Test.YtokcodeeaneeaaaLimB
import Derived.Test.YtokcodeeaneeaaaMix
namespace Go.Proofs.Ytokcodeeaneeaaa
open Go.RowKit
set_option linter.unusedVariables false
set_option linter.unusedSimpArgs false
set_option linter.unusedSectionVars false

section
variable {P : Program} {w : World} {ops : Array Oper} {rest : List Oper} {o : Oper} {a : Act} {Q : Exit → Act → World → Prop}
theorem run_makeMap_h {t kt et : TypeId} (ht : P.underlying t = some (.map kt et)) (k : IntKind) (n : Int) (w : World) : (Instr.makeMap t (some (.int k n))).run P w = .ok (.map (some w.heap.size)) (w.alloc (.map #[] 0)) := by
  simp [Instr.makeMap, run_underlying ht, asInt, asIntOf]
theorem wpList_update_u64 (hgd : o.guard = none) (m k v : Operand) (T : TypeId) (ho : o.op = .mapUpdate T m k v) (kt et : TypeId) (hT : P.underlying T = some (.map kt et)) (hkt : P.underlying kt = some (.int .u64))
    (B : Nat) (es : List (Int × Value)) (h : MapAt w B es) (key : Int) (val : Value) (hm : a.eval m = .map (some B)) (hk : a.eval k = .int .u64 key) (hv : a.eval v = val) (hn : u64At es key = none)
    (hK : ∀ w', MapAt w' B (es ++ [(key, val)]) → Ch (fun b => b = B) w w' → wpList P ops Q rest (a.put o.dst undef) w') : wpList P ops Q (o :: rest) a w := by
  refine wpList_plain hgd fun K' hK' => ?_
  obtain ⟨w', hrun, r1, r2⟩ := run_insert_u64 hT hkt h key val hn
  unfold Oper.wp
  simp [execOp, ho, hm, hk, hv, hrun, Result.andThen]
  exact hK' _ _ (hK w' r1 r2)
end
/-- The map of the handles that were seen. -/
def seen (hs : List Int) : List (Int × Value) := hs.map fun x => (x, .bool true)
theorem seen_at (hs : List Int) (x : Int) : u64At (seen hs) x = if x ∈ hs then some (.bool true) else none := by
  unfold u64At seen
  induction hs with
  | nil => rfl
  | cons y hs ih =>
    rw [List.map_cons, List.find?_cons]
    by_cases h : x = y
    · simp [h]
    · simp only [beq_eq_false_iff_ne.2 h, Bool.false_eq_true, if_false]
      rw [ih]
      simp [h]

/-- What a limbo holds. -/
def lbCells (v0 v1 v2 : Value) : Array Value := #[v0, v1, v2]
theorem newlimbo (w : World) : Calls Try.prog 43 #[] w fun e w' => e = .returned (.pointer (some ⟨w.heap.size, 0, none⟩)) ∧ Blk w' w.heap.size 133 (lbCells (.slice none 0 0) (.slice none 0 0) (.slice none 0 0)) ∧ Ch (fun _ => False) w w' := by
  go_enter Try.func43, Try.ntmps43
  go_wp2_with fail
  go_ret
  exact ⟨rfl, Blk.new w _ _, (Ch.refl _ w).alloc _⟩

set_option maxHeartbeats 1000000 in
theorem due_h (lb : Nat) (v0 v1 v2 : Value) (w : World) (h : Blk w lb 133 (lbCells v0 v1 v2)) (now : Int) (hn : 0 ≤ now ∧ now < 9223372036854775807) :
    Calls Try.prog 46 #[.pointer (some ⟨lb, 0, none⟩), .int .u64 now] w fun e w' => ∃ j : Nat, j < 3 ∧ (j : Int) = (now % 3 + 1) % 3 ∧ ∃ v, (lbCells v0 v1 v2)[j]? = some v ∧ e = .returned v ∧ Blk w' lb 133 ((lbCells v0 v1 v2).setIfInBounds j (.slice none 0 0)) ∧ Ch (fun b => b = lb) w w' := by
  have g0 : w.cell? ⟨lb, 0, none⟩ = some v0 := h.cell 0
  have g1 : w.cell? ⟨lb, 1, none⟩ = some v1 := h.cell 1
  have g2 : w.cell? ⟨lb, 2, none⟩ = some v2 := h.cell 2
  have f0 := h.free 0
  have f1 := h.free 1
  have f2 := h.free 2
  have htm : now.tmod 3 = now % 3 := Int.tmod_eq_emod_of_nonneg hn.1
  have H := hid h
  clear h
  rcases (show now % 3 = 0 ∨ now % 3 = 1 ∨ now % 3 = 2 by omega) with hj | hj | hj
  · rw [hj] at htm
    have HJ := hid hj
    clear hj hn
    go_enter Try.func46, Try.ntmps46
    go_wp2_with fail
    go_ret
    exact ⟨1, by decide, by rw [HJ.out]; decide, v1, rfl, rfl, H.out.put 1 _, (Ch.refl (fun b => b = lb) w).set (fun _ => rfl) _⟩
  · rw [hj] at htm
    have HJ := hid hj
    clear hj hn
    go_enter Try.func46, Try.ntmps46
    go_wp2_with fail
    go_ret
    exact ⟨2, by decide, by rw [HJ.out]; decide, v2, rfl, rfl, H.out.put 2 _, (Ch.refl (fun b => b = lb) w).set (fun _ => rfl) _⟩
  · rw [hj] at htm
    have HJ := hid hj
    clear hj hn
    go_enter Try.func46, Try.ntmps46
    go_wp2_with fail
    go_ret
    exact ⟨0, by decide, by rw [HJ.out]; decide, v0, rfl, rfl, H.out.put 0 _, (Ch.refl (fun b => b = lb) w).set (fun _ => rfl) _⟩

set_option maxRecDepth 100000 in
set_option maxHeartbeats 1000000 in
theorem handles_h (lb : Nat) (v0 v1 v2 : Value) (o0 o1 o2 : List Int) (w : World) (h : Blk w lb 133 (lbCells v0 v1 v2)) (h0 : HsAt w v0 o0) (h1 : HsAt w v1 o1) (h2 : HsAt w v2 o2) (hT : (o0 ++ o1 ++ o2).length < 1000000) :
    Calls Try.prog 42 #[.pointer (some ⟨lb, 0, none⟩)] w fun e w' => ∃ v, e = .returned v ∧ Made w.heap.size w' v (o0 ++ o1 ++ o2) ∧ Ch (fun _ => False) w w' := by
  have g0 : w.cell? ⟨lb, 0, none⟩ = some v0 := h.cell 0
  have g1 : w.cell? ⟨lb, 1, none⟩ = some v1 := h.cell 1
  have g2 : w.cell? ⟨lb, 2, none⟩ = some v2 := h.cell 2
  have hfl : [o0, o1, o2].flatten = o0 ++ o1 ++ o2 := by simp
  rw [← hfl] at hT ⊢
  have h0' := h0
  have h1' := h1
  have h2' := h2
  obtain ⟨A0, k0, e0, _⟩ := h0'
  obtain ⟨A1, k1, e1, _⟩ := h1'
  obtain ⟨A2, k2, e2, _⟩ := h2'
  subst e0 e1 e2
  have H0 := hid h0
  have H1 := hid h1
  have H2 := hid h2
  clear h h0 h1 h2 hfl
  go_enter Try.func42, Try.ntmps42
  go_wp2_with fail
  refine Mix.wp_region_mix (fun _ => True) (fun i => ([0, 0, 0, 0, 0, 0, 0, 0, 0, 0, 0, 0, 0, 0, 0, 2, 2, 0] : List Nat).getD i 0) [0, 1, 2, 3, 4, 5, 6, 7, 8, 9, 10, 11, 12, 13, 14, 15, 16, 17] (by kernel_rfl) (by kernel_rfl) ?_
  repeat (refine Mix.mix_q (by simp only [List.getElem?_toArray, List.getElem?_cons_zero, List.getElem?_cons_succ]; exact rfl) rfl ?_; go_big_quiet_step (fail); refine wpQuiet_nil ?_)
  refine Mix.mix_e (by simp only [List.getElem?_toArray, List.getElem?_cons_zero, List.getElem?_cons_succ]; exact rfl) rfl fun W hW => ?_
  obtain ⟨n1, rfl⟩ := hW
  go_wp2_with fail
  refine Mix.mix_e (by simp only [List.getElem?_toArray, List.getElem?_cons_zero, List.getElem?_cons_succ]; exact rfl) rfl fun W2 hW2 => ?_
  obtain ⟨n2, rfl⟩ := hW2
  go_wp2_with fail
  have c1 : Ch (fun _ => False) w (((w.drewN n1).alloc (.cells #[.slice A0 o0.length k0, .slice A1 o1.length k1, .slice A2 o2.length k2] 87)).drewN n2) := ((((Ch.refl _ w).drewN n1).alloc _).drewN n2)
  have kb : Blk (((w.drewN n1).alloc (.cells #[.slice A0 o0.length k0, .slice A1 o1.length k1, .slice A2 o2.length k2] 87)).drewN n2) w.heap.size 87 #[.slice A0 o0.length k0, .slice A1 o1.length k1, .slice A2 o2.length k2] := (Blk.new (w.drewN n1) 87 #[.slice A0 o0.length k0, .slice A1 o1.length k1, .slice A2 o2.length k2]).drewN n2
  refine (concat_h w.heap.size 0 3 3 [o0, o1, o2] (fun k => if k = 0 then .slice A0 o0.length k0 else if k = 1 then .slice A1 o1.length k1 else .slice A2 o2.length k2) _ rfl ?hV hT (by decide)).mono ?_
  case hV =>
    intro k hk
    rcases (show k = 0 ∨ k = 1 ∨ k = 2 by omega) with rfl | rfl | rfl
    · exact ⟨kb.cell 0, H0.out.keep c1⟩
    · exact ⟨kb.cell 1, H1.out.keep c1⟩
    · exact ⟨kb.cell 2, H2.out.keep c1⟩
  rintro e w3 ⟨v, rfl, hown, hch⟩
  have hown' : Made w.heap.size w3 v [o0, o1, o2].flatten := own_mono hown c1.size
  have HO := hid hown'
  have HC := hid (c1.trans hch (fun _ _ h => h))
  clear hown hown' hch c1 kb g0 g1 g2 hT
  go_wp2_with fail
  repeat (refine Mix.mix_q (by simp only [List.getElem?_toArray, List.getElem?_cons_zero, List.getElem?_cons_succ]; exact rfl) rfl ?_; go_big_quiet_step (fail); refine wpQuiet_nil ?_)
  intro n3
  go_wp2_with fail
  go_ret
  exact ⟨_, rfl, ((Ch.refl (fun _ => False) w3).drewN n3).own HO.out (fun _ _ => id), HC.out.drewN n3⟩

/-- What Retire leaves when the handles are accepted. -/
def RetOk (B lb : Nat) (v0 v1 v2 : Value) (o0 o1 o2 hs : List Int) (now : Int) (w w' : World) : Prop :=
  ∃ (j : Nat) (v v' : Value) (o : List Int), j < 3 ∧ (j : Int) = now % 3 ∧ (lbCells v0 v1 v2)[j]? = some v ∧ [o0, o1, o2][j]? = some o ∧ Blk w' lb 133 ((lbCells v0 v1 v2).setIfInBounds j v') ∧ Made B w' v' (o ++ hs) ∧ Ch (fun b => b = lb ∨ v.ownBlock = some b) w w' ∧ Fresh w v v'
section
variable (B lb : Nat) (v0 v1 v2 : Value) (o0 o1 o2 : List Int) (w : World) (h : Blk w lb 133 (lbCells v0 v1 v2)) (m0 : Made B w v0 o0) (m1 : Made B w v1 o1) (m2 : Made B w v2 o2) (now : Int) (hnow : 0 ≤ now ∧ now < 9223372036854775807)
  (b off n c : Nat) (hs : List Int) (hn : n = hs.length) (hnc : n ≤ c) (hh : ∀ i u, (hvs hs)[i]? = some u → w.cell? ⟨b, off + i, none⟩ = some u) (hs0 : 0 < n) (hT : (o0 ++ o1 ++ o2).length + n < 1000000) (hB : B ≤ w.heap.size)
include hn hnc hh hs0 hT
theorem hs_arg : HsAt w (.slice (some ⟨b, off, none⟩) n c) hs := ⟨_, c, by rw [hn], by omega, fun _ => ⟨b, off, rfl, hh⟩⟩
theorem retire_arg (h0 : 0 ∈ hs) : Calls Try.prog 45 #[.pointer (some ⟨lb, 0, none⟩), .int .u64 now, .slice (some ⟨b, off, none⟩) n c] w fun e w' => e = .returned (.int .i64 2) ∧ Ch (fun _ => False) w w' := by
  have HH := hid (hs_arg o0 o1 o2 w b off n c hs hn hnc hh hs0 hT)
  have HL := hid (show hs.length < 1000000 by omega)
  have H00 := hid h0
  clear hn hh hT h0
  go_enter Try.func45, Try.ntmps45
  go_wp2_with fail
  refine (contains_h _ hs w HH.out HL.out 0 true ⟨fun _ => H00.out, fun _ => rfl⟩).mono ?_
  rintro e w1 ⟨rfl, k, rfl⟩
  go_wp2_with fail
  go_ret
  exact ⟨rfl, (Ch.refl _ w).drewN _⟩
include h m0 m1 m2 hnow hB
set_option maxRecDepth 100000 in
set_option maxHeartbeats 4000000 in
theorem retire_run (h0 : ¬ 0 ∈ hs) : Calls Try.prog 45 #[.pointer (some ⟨lb, 0, none⟩), .int .u64 now, .slice (some ⟨b, off, none⟩) n c] w fun e w' =>
    (¬ (o0 ++ o1 ++ o2 ++ hs).Nodup ∧ e = .returned (.int .i64 9) ∧ Ch (fun _ => False) w w') ∨ ((o0 ++ o1 ++ o2 ++ hs).Nodup ∧ e = .returned (.int .i64 0) ∧ RetOk B lb v0 v1 v2 o0 o1 o2 hs now w w') := by
  obtain ⟨O, hO⟩ : ∃ O, O = o0 ++ o1 ++ o2 := ⟨_, rfl⟩
  rw [← hO] at hT ⊢
  obtain ⟨A, hA⟩ : ∃ A, A = O ++ hs := ⟨_, rfl⟩
  rw [← hA]
  have HOO := hid hO
  have HA := hid hA
  clear hO hA
  obtain ⟨i0, hi, hz0, hz1, hz2⟩ := info_parts (show (Try.prog.info? 92).map (fun i => (i.zero, i.size, i.bytes)) = some (some (.int .u64 0), 1, 8) by kernel_rfl)
  have hmm := fun n w => run_makeMap_h (P := Try.prog) Try.underlying135 .i64 n w
  have HH := hid (hs_arg o0 o1 o2 w b off n c hs hn hnc hh hs0 (by rw [← HOO.out]; exact hT))
  have HR := hid hh
  have HN := hid hn
  have H := hid h
  have HM0 := hid m0
  have HM1 := hid m1
  have HM2 := hid m2
  have HHB := hid (show b < w.heap.size by
    have := hh 0 _ (hvs_at (by omega))
    exact World.block_lt_of_cell? w _ this)
  have H00 := hid h0
  clear hh hn h m0 m1 m2 h0
  go_enter Try.func45, Try.ntmps45
  go_wp2_with fail
  refine (contains_h _ hs w HH.out (by rw [← HN.out]; omega) 0 false ⟨(fun c => by cases c), fun c => absurd c H00.out⟩).mono ?_
  rintro e w1 ⟨rfl, k1, rfl⟩
  go_wp2_with fail
  refine (handles_h lb v0 v1 v2 o0 o1 o2 _ (H.out.drewN k1) ((hs_of_own HM0.out).drewN k1) ((hs_of_own HM1.out).drewN k1) ((hs_of_own HM2.out).drewN k1) (by rw [← HOO.out]; omega)).mono ?_
  rintro e w2 ⟨va, rfl, hown, hch⟩
  rw [← HOO.out] at hown
  obtain ⟨A1, cp1, hv1, hc1⟩ := own_slice hown
  subst hv1
  have hch : Ch (fun _ => False) w w2 := hch.ofDrewN
  have hsz : w.heap.size ≤ w2.heap.size := hch.size
  obtain ⟨na, hna⟩ : ∃ na, na = O.length := ⟨_, rfl⟩
  unfold Made at hown
  rw [← hna] at hT hown hc1 ⊢
  have HO := hid hown
  have HC := hid hch
  have HNA := hid hna
  clear hown hch hna
  go_wp2_with (at_builtin; refine wpList_app _ rfl (.tmp 16) (.tmp 17) 87 rfl w.heap.size 92 i0 _ 1 8 Try.underlying87 hi hz0 hz1 hz2 rfl (by decide) _ _ _ rfl HO.out ⟨b, off, none⟩ n c (hvs hs) rfl ?c0 ?c1 ?c2 hs0 ?c3 ?c4 ?c5 ?c6)
  case c0 => unfold hvs; rw [List.length_map, ← HN.out]; omega
  case c1 => intro i u hu; rw [addr_add]; exact (HC.out.cell HHB.out id).trans (HR.out i u hu)
  case c2 => intro u hu; obtain ⟨z, _, rfl⟩ := List.mem_map.1 hu; rfl
  case c3 => unfold maxLen; omega
  case c4 => omega
  case c5 => exact hsz
  case c6 =>
  intro v' w3 hown3 hgrow hfresh
  have hc3 : Ch (fun _ => False) w w3 := HC.out.grown hgrow (fun g hg hlt => (Nat.lt_irrefl _ (Nat.lt_of_lt_of_le hlt (HO.out.lt g hg).1)).elim)
  have hAl : A.length = na + n := by rw [HA.out, List.length_append, HNA.out, HN.out]
  have hown3' : Made w.heap.size w3 v' A := by
    unfold Made
    rw [hAl, HA.out]
    unfold hvs at hown3 ⊢
    rw [List.map_append]
    exact hown3
  have hTA : A.length < 1000000 := by omega
  clear hown3 hgrow hfresh HO HC hc1 hsz hAl
  obtain ⟨N, hN⟩ : ∃ N, N = A.length := ⟨_, rfl⟩
  have hrd := hs_of_own hown3'
  obtain ⟨A3, cp3, hv3, hcp3, hrd⟩ := hrd
  subst hv3
  have hml : ∀ k, (Value.slice A3 A.length cp3).ownBlock = some k → k < w3.heap.size := fun k hk => (hown3'.lt k hk).2
  rw [← hN] at hml hTA hcp3 hrd ⊢
  have HML := hid hml
  have HRD := hid hrd
  have HNN := hid hN
  have HC3 := hid hc3
  clear hml hrd hN hown3' hc3
  go_wp2_with fail
  go_loopw [24] (fun i wr => ∃ k : Nat, k ≤ N ∧ i = .int .i64 k ∧ (A.take k).Nodup ∧ MapAt wr w3.heap.size (seen (A.take k)) ∧ Ch (fun _ => False) w3 wr) (fun i _ => N - (intOf i).toNat)
  case atStart => exact ⟨0, Nat.zero_le _, rfl, List.nodup_nil, MapAt.new w3, (Ch.refl _ w3).alloc _⟩
  case round =>
  obtain ⟨k, hk, rfl, hnd, hmap, hcr⟩ := hrel
  have HND := hid hnd
  have HMAP := hid hmap
  have HCR := hid hcr
  clear hnd hmap hcr
  by_cases hlt : k < N
  · have hlA : k < A.length := by rw [← HNN.out]; exact hlt
    obtain ⟨b3, o3, hA3, hrc⟩ := HRD.out (by omega)
    subst hA3
    have c0 := hrc k _ (hvs_at hlA)
    have c1 : wr.cell? ⟨b3, o3 + k, none⟩ = some (.int .u64 (lk A k)) := (HCR.out.cell (World.block_lt_of_cell? w3 _ c0) id).trans c0
    have hsu : A.take (k + 1) = A.take k ++ [lk A k] := by
      rw [List.take_add_one, List.getElem?_eq_getElem hlA]
      simp [lk, hlA]
    obtain ⟨y, hy⟩ : ∃ y, y = lk A k := ⟨_, rfl⟩
    rw [← hy] at c1 hsu
    have HSU := hid hsu
    have hat := seen_at (A.take k) y
    have d1 : decide ((k : Int) < (N : Int)) = true := decide_eq_true (by omega)
    have d1' : decide (k < N) = true := decide_eq_true hlt
    clear c0 hrc hlA hsu hy
    by_cases hmem : y ∈ A.take k
    · rw [if_pos hmem] at hat
      have HAT := hid hat
      have HBAD := hid (show ¬ A.Nodup from fun hnn => by
        have := (List.take_sublist (k + 1) A).nodup hnn
        rw [HSU.out, List.nodup_append] at this
        exact this.2.2 y hmem y (List.mem_singleton.2 rfl) rfl)
      clear hat hmem
      go_wp2_with (refine wpList_lookup_u64 rfl _ _ 135 rfl _ _ Try.underlying135 Try.underlying92 w3.heap.size _ HMAP.out y (.bool false) (Try.zeroValue4 _) rfl rfl (.bool true) (by rw [HAT.out]; rfl) ?_)
      go_ret
      refine .inl ⟨HBAD.out, rfl, ?_⟩
      exact HC3.out.trans HCR.out (fun _ _ h => h)
    · rw [if_neg hmem] at hat
      have HAT := hid hat
      have HME := hid hmem
      clear hat hmem
      go_wp2_with (first | (refine wpList_lookup_u64 rfl _ _ 135 rfl _ _ Try.underlying135 Try.underlying92 w3.heap.size _ HMAP.out y (.bool false) (Try.zeroValue4 _) rfl rfl (.bool false) (by rw [HAT.out]; rfl) ?_) | (refine wpList_update_u64 rfl _ _ _ 135 rfl _ _ Try.underlying135 Try.underlying92 w3.heap.size _ HMAP.out y (.bool true) rfl rfl rfl HAT.out ?_; intro w4 m4 c4))
      go_roundw
      case rel =>
        refine ⟨k + 1, by omega, by go_num, ?_, ?_, HCR.out.trans c4 (fun i hi e => by omega)⟩
        · rw [HSU.out, List.nodup_append]
          exact ⟨HND.out, by simp, fun a ha b hb e => by rw [List.mem_singleton] at hb; subst hb; subst e; exact HME.out ha⟩
        · rw [HSU.out]
          unfold seen
          rw [List.map_append]
          exact m4
      case measure => simp [intOf]; omega
  · obtain rfl : k = N := by omega
    have d1 : decide ((k : Int) < (k : Int)) = false := decide_eq_false (by omega)
    have d1' : decide (k < k) = false := decide_eq_false (by omega)
    have hnd : A.Nodup := by
      have := HND.out
      rw [HNN.out, List.take_length] at this
      exact this
    have HND2 := hid hnd
    have hcw : Ch (fun _ => False) w wr := HC3.out.trans HCR.out (fun _ _ h => h)
    have HCW := hid hcw
    have k0 := hcw.blk H.out id
    have g0 : wr.cell? ⟨lb, 0, none⟩ = some v0 := k0.cell 0
    have g1 : wr.cell? ⟨lb, 1, none⟩ = some v1 := k0.cell 1
    have g2 : wr.cell? ⟨lb, 2, none⟩ = some v2 := k0.cell 2
    have htm : now.tmod 3 = now % 3 := Int.tmod_eq_emod_of_nonneg hnow.1
    have K0 := hid k0
    clear hnd hcw k0 HND HMAP HCR HML
    rcases (show now % 3 = 0 ∨ now % 3 = 1 ∨ now % 3 = 2 by omega) with hj | hj | hj
    · rw [hj] at htm
      have HJ := hid hj
      clear hj hnow
      go_wp2_with fail
      refine Mix.wp_region_mix (fun _ => True) (fun i => ([1, 1, 1, 0, 0, 0, 0, 0, 0, 0, 0, 2, 1, 1, 0, 2] : List Nat).getD i 0) [0, 1, 2, 3, 4, 5, 6, 7, 8, 9, 10, 12, 13, 11, 14, 15] (by kernel_rfl) (by kernel_rfl) ?_
      repeat (first | (refine Mix.mix_q (by simp only [List.getElem?_toArray, List.getElem?_cons_zero, List.getElem?_cons_succ]; exact rfl) rfl ?_; go_big_quiet_step (fail); refine wpQuiet_nil ?_) | (refine Mix.mix_p (by simp only [List.getElem?_toArray, List.getElem?_cons_zero, List.getElem?_cons_succ]; exact rfl) rfl rfl ?_; go_big_quiet_step (fail); refine wpQuiet_nil ?_))
      refine Mix.mix_e (by simp only [List.getElem?_toArray, List.getElem?_cons_zero, List.getElem?_cons_succ]; exact rfl) rfl fun W hW => ?_
      obtain ⟨n1, rfl⟩ := hW
      have hl : o0.length ≤ na := by rw [HNA.out, HOO.out, List.length_append, List.length_append]; omega
      have hmj : (wr.drewN n1).ownsRow B 92 1 v0 o0.length (hvs o0) := (HCW.out.drewN n1).own HM0.out (fun _ _ => id)
      go_wp2_with (at_builtin; refine wpList_app _ rfl (.tmp 43) (.tmp 44) 87 rfl B 92 i0 _ 1 8 Try.underlying87 hi hz0 hz1 hz2 rfl (by decide) _ _ _ rfl hmj ⟨b, off, none⟩ n c (hvs hs) rfl ?c0 ?c1 ?c2 hs0 ?c3 ?c4 ?c5 ?c6)
      case c0 => unfold hvs; rw [List.length_map, ← HN.out]; omega
      case c1 => intro i u hu; rw [addr_add]; exact ((HCW.out.drewN n1).cell HHB.out id).trans (HR.out i u hu)
      case c2 => intro u hu; obtain ⟨z, _, rfl⟩ := List.mem_map.1 hu; rfl
      case c3 => unfold maxLen; omega
      case c4 => omega
      case c5 => exact Nat.le_trans hB (HCW.out.drewN n1).size
      case c6 =>
        intro vn w5 hown5 hgrow5 hfresh5
        obtain ⟨A5, cp5, hv5, _⟩ := own_slice hown5
        subst hv5
        have hnj : v0.ownBlock ≠ some lb := (K0.out.drewN n1).own hmj (by decide)
        have k5 : Blk w5 lb 133 (lbCells v0 v1 v2) := (K0.out.drewN n1).grown hgrow5 hnj
        have c5 : Ch (fun b => b = lb ∨ v0.ownBlock = some b) w w5 := ((HCW.out.drewN n1).mono (fun _ _ e => e.elim)).grown hgrow5 (fun g hg _ => .inr hg)
        have hfr : Fresh w v0 (.slice A5 (o0.length + n) cp5) := by
          rcases hfresh5 with e | e
          · exact .inl e
          · exact .inr fun g hg => Nat.le_trans (HCW.out.drewN n1).size (e g hg)
        have hn5 : (Value.slice A5 (o0.length + n) cp5).ownBlock ≠ some lb := fun e => by
          have := k5.own hown5 (by decide)
          exact this e
        have f5 := k5.free 0
        have q5 : w5.cell? ⟨lb, 0, none⟩ = some v0 := k5.cell 0
        have K5 := hid k5
        have O5 := hid hown5
        have C5 := hid c5
        have FR5 := hid hfr
        have N5 := hid hn5
        clear hown5 hgrow5 hfresh5 k5 c5 hfr hn5 hnj hmj g0 g1 g2
        go_wp2_with fail
        repeat (first | (refine Mix.mix_q (by simp only [List.getElem?_toArray, List.getElem?_cons_zero, List.getElem?_cons_succ]; exact rfl) rfl ?_; go_big_quiet_step (fail); refine wpQuiet_nil ?_) | (refine Mix.mix_p (by simp only [List.getElem?_toArray, List.getElem?_cons_zero, List.getElem?_cons_succ]; exact rfl) rfl rfl ?_; go_big_quiet_step (fail); refine wpQuiet_nil ?_))
        refine Mix.mix_e (by simp only [List.getElem?_toArray, List.getElem?_cons_zero, List.getElem?_cons_succ]; exact rfl) rfl fun W2 hW2 => ?_
        obtain ⟨n2, rfl⟩ := hW2
        go_wp2_with fail
        intro n3
        go_wp2_with fail
        go_ret
        refine .inr ⟨HND2.out, rfl, 0, v0, _, o0, by decide, by rw [HJ.out]; decide, rfl, rfl, ((K5.out.drewN n2).put 0 _).drewN n3, ?_, ((C5.out.drewN n2).set (fun _ => .inl rfl) _).drewN n3, FR5.out⟩
        have hfin : Made B w5 (.slice A5 (o0.length + n) cp5) (o0 ++ hs) := by
          unfold Made
          rw [List.length_append, ← HN.out]
          unfold hvs
          rw [List.map_append]
          exact O5.out
        exact ((((Ch.refl (fun b => b = lb) w5).drewN n2).set (fun _ => rfl) _).drewN n3).own hfin (fun g hg e => N5.out (by rw [hg, e]))
    · rw [hj] at htm
      have HJ := hid hj
      clear hj hnow
      go_wp2_with fail
      refine Mix.wp_region_mix (fun _ => True) (fun i => ([1, 1, 1, 0, 0, 0, 0, 0, 0, 0, 0, 2, 1, 1, 0, 2] : List Nat).getD i 0) [0, 1, 2, 3, 4, 5, 6, 7, 8, 9, 10, 12, 13, 11, 14, 15] (by kernel_rfl) (by kernel_rfl) ?_
      repeat (first | (refine Mix.mix_q (by simp only [List.getElem?_toArray, List.getElem?_cons_zero, List.getElem?_cons_succ]; exact rfl) rfl ?_; go_big_quiet_step (fail); refine wpQuiet_nil ?_) | (refine Mix.mix_p (by simp only [List.getElem?_toArray, List.getElem?_cons_zero, List.getElem?_cons_succ]; exact rfl) rfl rfl ?_; go_big_quiet_step (fail); refine wpQuiet_nil ?_))
      refine Mix.mix_e (by simp only [List.getElem?_toArray, List.getElem?_cons_zero, List.getElem?_cons_succ]; exact rfl) rfl fun W hW => ?_
      obtain ⟨n1, rfl⟩ := hW
      have hl : o1.length ≤ na := by rw [HNA.out, HOO.out, List.length_append, List.length_append]; omega
      have hmj : (wr.drewN n1).ownsRow B 92 1 v1 o1.length (hvs o1) := (HCW.out.drewN n1).own HM1.out (fun _ _ => id)
      go_wp2_with (at_builtin; refine wpList_app _ rfl (.tmp 43) (.tmp 44) 87 rfl B 92 i0 _ 1 8 Try.underlying87 hi hz0 hz1 hz2 rfl (by decide) _ _ _ rfl hmj ⟨b, off, none⟩ n c (hvs hs) rfl ?c0 ?c1 ?c2 hs0 ?c3 ?c4 ?c5 ?c6)
      case c0 => unfold hvs; rw [List.length_map, ← HN.out]; omega
      case c1 => intro i u hu; rw [addr_add]; exact ((HCW.out.drewN n1).cell HHB.out id).trans (HR.out i u hu)
      case c2 => intro u hu; obtain ⟨z, _, rfl⟩ := List.mem_map.1 hu; rfl
      case c3 => unfold maxLen; omega
      case c4 => omega
      case c5 => exact Nat.le_trans hB (HCW.out.drewN n1).size
      case c6 =>
        intro vn w5 hown5 hgrow5 hfresh5
        obtain ⟨A5, cp5, hv5, _⟩ := own_slice hown5
        subst hv5
        have hnj : v1.ownBlock ≠ some lb := (K0.out.drewN n1).own hmj (by decide)
        have k5 : Blk w5 lb 133 (lbCells v0 v1 v2) := (K0.out.drewN n1).grown hgrow5 hnj
        have c5 : Ch (fun b => b = lb ∨ v1.ownBlock = some b) w w5 := ((HCW.out.drewN n1).mono (fun _ _ e => e.elim)).grown hgrow5 (fun g hg _ => .inr hg)
        have hfr : Fresh w v1 (.slice A5 (o1.length + n) cp5) := by
          rcases hfresh5 with e | e
          · exact .inl e
          · exact .inr fun g hg => Nat.le_trans (HCW.out.drewN n1).size (e g hg)
        have hn5 : (Value.slice A5 (o1.length + n) cp5).ownBlock ≠ some lb := fun e => by
          have := k5.own hown5 (by decide)
          exact this e
        have f5 := k5.free 1
        have q5 : w5.cell? ⟨lb, 1, none⟩ = some v1 := k5.cell 1
        have K5 := hid k5
        have O5 := hid hown5
        have C5 := hid c5
        have FR5 := hid hfr
        have N5 := hid hn5
        clear hown5 hgrow5 hfresh5 k5 c5 hfr hn5 hnj hmj g0 g1 g2
        go_wp2_with fail
        repeat (first | (refine Mix.mix_q (by simp only [List.getElem?_toArray, List.getElem?_cons_zero, List.getElem?_cons_succ]; exact rfl) rfl ?_; go_big_quiet_step (fail); refine wpQuiet_nil ?_) | (refine Mix.mix_p (by simp only [List.getElem?_toArray, List.getElem?_cons_zero, List.getElem?_cons_succ]; exact rfl) rfl rfl ?_; go_big_quiet_step (fail); refine wpQuiet_nil ?_))
        refine Mix.mix_e (by simp only [List.getElem?_toArray, List.getElem?_cons_zero, List.getElem?_cons_succ]; exact rfl) rfl fun W2 hW2 => ?_
        obtain ⟨n2, rfl⟩ := hW2
        go_wp2_with fail
        intro n3
        go_wp2_with fail
        go_ret
        refine .inr ⟨HND2.out, rfl, 1, v1, _, o1, by decide, by rw [HJ.out]; decide, rfl, rfl, ((K5.out.drewN n2).put 1 _).drewN n3, ?_, ((C5.out.drewN n2).set (fun _ => .inl rfl) _).drewN n3, FR5.out⟩
        have hfin : Made B w5 (.slice A5 (o1.length + n) cp5) (o1 ++ hs) := by
          unfold Made
          rw [List.length_append, ← HN.out]
          unfold hvs
          rw [List.map_append]
          exact O5.out
        exact ((((Ch.refl (fun b => b = lb) w5).drewN n2).set (fun _ => rfl) _).drewN n3).own hfin (fun g hg e => N5.out (by rw [hg, e]))
    · rw [hj] at htm
      have HJ := hid hj
      clear hj hnow
      go_wp2_with fail
      refine Mix.wp_region_mix (fun _ => True) (fun i => ([1, 1, 1, 0, 0, 0, 0, 0, 0, 0, 0, 2, 1, 1, 0, 2] : List Nat).getD i 0) [0, 1, 2, 3, 4, 5, 6, 7, 8, 9, 10, 12, 13, 11, 14, 15] (by kernel_rfl) (by kernel_rfl) ?_
      repeat (first | (refine Mix.mix_q (by simp only [List.getElem?_toArray, List.getElem?_cons_zero, List.getElem?_cons_succ]; exact rfl) rfl ?_; go_big_quiet_step (fail); refine wpQuiet_nil ?_) | (refine Mix.mix_p (by simp only [List.getElem?_toArray, List.getElem?_cons_zero, List.getElem?_cons_succ]; exact rfl) rfl rfl ?_; go_big_quiet_step (fail); refine wpQuiet_nil ?_))
      refine Mix.mix_e (by simp only [List.getElem?_toArray, List.getElem?_cons_zero, List.getElem?_cons_succ]; exact rfl) rfl fun W hW => ?_
      obtain ⟨n1, rfl⟩ := hW
      have hl : o2.length ≤ na := by rw [HNA.out, HOO.out, List.length_append, List.length_append]; omega
      have hmj : (wr.drewN n1).ownsRow B 92 1 v2 o2.length (hvs o2) := (HCW.out.drewN n1).own HM2.out (fun _ _ => id)
      go_wp2_with (at_builtin; refine wpList_app _ rfl (.tmp 43) (.tmp 44) 87 rfl B 92 i0 _ 1 8 Try.underlying87 hi hz0 hz1 hz2 rfl (by decide) _ _ _ rfl hmj ⟨b, off, none⟩ n c (hvs hs) rfl ?c0 ?c1 ?c2 hs0 ?c3 ?c4 ?c5 ?c6)
      case c0 => unfold hvs; rw [List.length_map, ← HN.out]; omega
      case c1 => intro i u hu; rw [addr_add]; exact ((HCW.out.drewN n1).cell HHB.out id).trans (HR.out i u hu)
      case c2 => intro u hu; obtain ⟨z, _, rfl⟩ := List.mem_map.1 hu; rfl
      case c3 => unfold maxLen; omega
      case c4 => omega
      case c5 => exact Nat.le_trans hB (HCW.out.drewN n1).size
      case c6 =>
        intro vn w5 hown5 hgrow5 hfresh5
        obtain ⟨A5, cp5, hv5, _⟩ := own_slice hown5
        subst hv5
        have hnj : v2.ownBlock ≠ some lb := (K0.out.drewN n1).own hmj (by decide)
        have k5 : Blk w5 lb 133 (lbCells v0 v1 v2) := (K0.out.drewN n1).grown hgrow5 hnj
        have c5 : Ch (fun b => b = lb ∨ v2.ownBlock = some b) w w5 := ((HCW.out.drewN n1).mono (fun _ _ e => e.elim)).grown hgrow5 (fun g hg _ => .inr hg)
        have hfr : Fresh w v2 (.slice A5 (o2.length + n) cp5) := by
          rcases hfresh5 with e | e
          · exact .inl e
          · exact .inr fun g hg => Nat.le_trans (HCW.out.drewN n1).size (e g hg)
        have hn5 : (Value.slice A5 (o2.length + n) cp5).ownBlock ≠ some lb := fun e => by
          have := k5.own hown5 (by decide)
          exact this e
        have f5 := k5.free 2
        have q5 : w5.cell? ⟨lb, 2, none⟩ = some v2 := k5.cell 2
        have K5 := hid k5
        have O5 := hid hown5
        have C5 := hid c5
        have FR5 := hid hfr
        have N5 := hid hn5
        clear hown5 hgrow5 hfresh5 k5 c5 hfr hn5 hnj hmj g0 g1 g2
        go_wp2_with fail
        repeat (first | (refine Mix.mix_q (by simp only [List.getElem?_toArray, List.getElem?_cons_zero, List.getElem?_cons_succ]; exact rfl) rfl ?_; go_big_quiet_step (fail); refine wpQuiet_nil ?_) | (refine Mix.mix_p (by simp only [List.getElem?_toArray, List.getElem?_cons_zero, List.getElem?_cons_succ]; exact rfl) rfl rfl ?_; go_big_quiet_step (fail); refine wpQuiet_nil ?_))
        refine Mix.mix_e (by simp only [List.getElem?_toArray, List.getElem?_cons_zero, List.getElem?_cons_succ]; exact rfl) rfl fun W2 hW2 => ?_
        obtain ⟨n2, rfl⟩ := hW2
        go_wp2_with fail
        intro n3
        go_wp2_with fail
        go_ret
        refine .inr ⟨HND2.out, rfl, 2, v2, _, o2, by decide, by rw [HJ.out]; decide, rfl, rfl, ((K5.out.drewN n2).put 2 _).drewN n3, ?_, ((C5.out.drewN n2).set (fun _ => .inl rfl) _).drewN n3, FR5.out⟩
        have hfin : Made B w5 (.slice A5 (o2.length + n) cp5) (o2 ++ hs) := by
          unfold Made
          rw [List.length_append, ← HN.out]
          unfold hvs
          rw [List.map_append]
          exact O5.out
        exact ((((Ch.refl (fun b => b = lb) w5).drewN n2).set (fun _ => rfl) _).drewN n3).own hfin (fun g hg e => N5.out (by rw [hg, e]))

end
end Go.Proofs.Ytokcodeeaneeaaa
