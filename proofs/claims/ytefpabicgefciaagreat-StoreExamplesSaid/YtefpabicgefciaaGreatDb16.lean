/- Texts XPChk, XKeepF, XMapU64 for XChE, by trim.py. -/
import Derived.Test.YtefpabicgefciaaGreatDb15
import Derived.Test.YtefpabicgefciaaGreatDb12
import Derived.Test.YtefpabicgefciaaGreatDb01
import Derived.MapKept
namespace Go.Proofs.YtefpabicgefciaaGreat
open Go.RowKit
set_option linter.unusedVariables false
set_option linter.unusedSimpArgs false
set_option linter.unusedSectionVars false
set_option maxRecDepth 100000
set_option maxHeartbeats 4000000 in
theorem check_leafT (p : Option Addr) (s : ByteArray) (h8 : 8 ≤ s.size) (h2 : s.size ≤ 16) (w : World) : Calls Tryz.prog 199 #[.pointer p, .agg #[.int .u64 0, .int .i64 0, .int .i64 0, .int .i64 0, .int .i64 0, .string s, .slice none 0 0], .bool true, .int .i64 0] w fun e w' => e = .returned (.int .i64 0) ∧ Ch (fun _ => False) w w' := by
  have d1 : decide ((s.size : Int) < 8) = false := decide_eq_false (by omega)
  go_enter Tryz.func199, Tryz.ntmps199
  go_wp2_with fail
  refine calls_world fun W0 hW0 => ?_
  have C0 := hid (show Ch (fun _ => False) w W0 from by rw [hW0]; exact (Ch.refl _ w).alloc _)
  have B0 := hid (show Blk W0 w.heap.size 152 #[.int .u64 0, .int .i64 0, .int .i64 0, .int .i64 0, .int .i64 0, .string s, .slice none 0 0] from by rw [hW0]; exact Blk.new w _ _)
  clear hW0
  refine (kind_leaf s (by omega) h2 W0).mono ?_
  rintro e W1 ⟨rfl, hc⟩
  have C1 := hid (C0.out.trans hc (fun _ _ h => h))
  have B1 := hid (hc.blk B0.out id)
  have r1 : W1.cell? ⟨w.heap.size, 1, none⟩ = some (.int .i64 0) := B1.out.cell 1
  have r5 : W1.cell? ⟨w.heap.size, 5, none⟩ = some (.string s) := B1.out.cell 5
  have r0 : W1.cell? ⟨w.heap.size, 0, none⟩ = some (.int .u64 0) := B1.out.cell 0
  have r2 : W1.cell? ⟨w.heap.size, 2, none⟩ = some (.int .i64 0) := B1.out.cell 2
  have r3 : W1.cell? ⟨w.heap.size, 3, none⟩ = some (.int .i64 0) := B1.out.cell 3
  have r4 : W1.cell? ⟨w.heap.size, 4, none⟩ = some (.int .i64 0) := B1.out.cell 4
  have r6 : W1.cell? ⟨w.heap.size, 6, none⟩ = some (.slice none 0 0) := B1.out.cell 6
  clear hc
  go_wp2_with fail
  refine (bytes_leaf s (by omega) W1).mono ?_
  rintro e WL ⟨rfl, hc⟩
  have CL := hid (C1.out.trans hc (fun _ _ h => h))
  have r6' : WL.cell? ⟨w.heap.size, 6, none⟩ = some (.slice none 0 0) := (hc.blk B1.out id).cell 6
  clear hc r0 r1 r2 r3 r4 r5 r6
  go_wp2_with fail
  go_loopw [58] (fun i W => i = .int .i64 0 ∧ W = WL) (fun _ _ => 0)
  case atStart => exact ⟨rfl, rfl⟩
  case round =>
    obtain ⟨rfl, rfl⟩ := hrel
    go_wp2_with fail
    go_ret
    exact ⟨rfl, CL.out⟩
set_option maxHeartbeats 4000000 in
theorem check_leafF (p : Option Addr) (s : ByteArray) (h8 : 1 ≤ s.size) (h2 : s.size ≤ 16) (w : World) : Calls Tryz.prog 199 #[.pointer p, .agg #[.int .u64 0, .int .i64 0, .int .i64 0, .int .i64 0, .int .i64 0, .string s, .slice none 0 0], .bool false, .int .i64 0] w fun e w' => e = .returned (.int .i64 0) ∧ Ch (fun _ => False) w w' := by
  go_enter Tryz.func199, Tryz.ntmps199
  go_wp2_with fail
  refine calls_world fun W0 hW0 => ?_
  have C0 := hid (show Ch (fun _ => False) w W0 from by rw [hW0]; exact (Ch.refl _ w).alloc _)
  have B0 := hid (show Blk W0 w.heap.size 152 #[.int .u64 0, .int .i64 0, .int .i64 0, .int .i64 0, .int .i64 0, .string s, .slice none 0 0] from by rw [hW0]; exact Blk.new w _ _)
  clear hW0
  refine (kind_leaf s (by omega) h2 W0).mono ?_
  rintro e W1 ⟨rfl, hc⟩
  have C1 := hid (C0.out.trans hc (fun _ _ h => h))
  have B1 := hid (hc.blk B0.out id)
  have r1 : W1.cell? ⟨w.heap.size, 1, none⟩ = some (.int .i64 0) := B1.out.cell 1
  have r6 : W1.cell? ⟨w.heap.size, 6, none⟩ = some (.slice none 0 0) := B1.out.cell 6
  clear hc
  go_wp2_with fail
  go_loopw [58] (fun i W => i = .int .i64 0 ∧ W = W1) (fun _ _ => 0)
  case atStart => exact ⟨rfl, rfl⟩
  case round =>
    obtain ⟨rfl, rfl⟩ := hrel
    go_wp2_with fail
    go_ret
    exact ⟨rfl, C1.out⟩
set_option maxHeartbeats 4000000 in
theorem check_nodeT (p : Option Addr) (h : Nat) (ks : List T) (m b off c : Nat) (w : World) (S : Nat → Prop) (hm16 : m + 1 ≤ 16) (hm : h = m + 1) (hI : InTs w S (some ⟨b, off, none⟩) ks.length ks) (hf1 : 2 ≤ ks.length) (hf2 : ks.length ≤ 4) (hf3 : ∀ t ∈ ks, T.fit m t)
    (ih : ∀ t ∈ ks, ∀ (cs : List Value) (w : World) (S : Nat → Prop), TreeAt w S t cs → Calls Tryz.prog 199 #[.pointer p, .agg cs.toArray, .bool true, .int .i64 (m : Int)] w fun e w' => e = .returned (.int .i64 0) ∧ Ch (fun _ => False) w w') :
    Calls Tryz.prog 199 #[.pointer p, .agg #[.int .u64 0, .int .i64 (h : Int), .int .i64 0, .int .i64 0, .int .i64 0, .string ⟨#[]⟩, .slice (some ⟨b, off, none⟩) ks.length c], .bool true, .int .i64 (h : Int)] w fun e w' => e = .returned (.int .i64 0) ∧ Ch (fun _ => False) w w' := by
  have hh1 : 1 ≤ h := by omega
  have hh2 : h ≤ 16 := by omega
  have d0 : ((h : Int) == 0) = false := by rw [beq_eq_false_iff_ne]; omega
  have d1 : ((h : Int) != (h : Int)) = false := by simp
  have hm1 : (h : Int) - 1 = (m : Int) := by omega
  have HI := hid hI
  have IH := hid ih
  have HM1 := hid hm1
  clear hI ih hf3 hm hm1
  obtain ⟨n, hn⟩ : ∃ n, n = ks.length := ⟨_, rfl⟩
  rw [← hn] at hf1 hf2
  rw [← hn]
  have HN := hid hn
  clear hn
  go_enter Tryz.func199, Tryz.ntmps199
  go_wp2_with fail
  refine calls_world fun W0 hW0 => ?_
  have C0 := hid (show Ch (fun _ => False) w W0 from by rw [hW0]; exact (Ch.refl _ w).alloc _)
  have B0 := hid (show Blk W0 w.heap.size 152 #[.int .u64 0, .int .i64 (h : Int), .int .i64 0, .int .i64 0, .int .i64 0, .string ⟨#[]⟩, .slice (some ⟨b, off, none⟩) n c] from by rw [hW0]; exact Blk.new w _ _)
  clear hW0
  refine (kind_node h b off n c hh1 hh2 hf1 hf2 W0).mono ?_
  rintro e W1 ⟨rfl, hc⟩
  have C1 := hid (C0.out.trans hc (fun _ _ h => h))
  have B1 := hid (hc.blk B0.out id)
  have r1 : W1.cell? ⟨w.heap.size, 1, none⟩ = some (.int .i64 (h : Int)) := B1.out.cell 1
  have r6 : W1.cell? ⟨w.heap.size, 6, none⟩ = some (.slice (some ⟨b, off, none⟩) n c) := B1.out.cell 6
  clear hc B0 C0
  have hbl := B1.out.lt
  go_wp2_with fail
  go_loopw [58] (fun i W => ∃ k : Nat, k ≤ n ∧ i = .int .i64 (k : Int) ∧ Ch (fun _ => False) W1 W) (fun i _ => n - (intOf i).toNat)
  case atStart => exact ⟨0, Nat.zero_le _, rfl, Ch.refl _ _⟩
  case round =>
    clear r1 r6
    obtain ⟨k, hk, rfl, hCh⟩ := hrel
    by_cases hlt : k < n
    · have hlt' : k < ks.length := by rw [← HN.out]; exact hlt
      obtain ⟨x, hx⟩ : ∃ x, ks[k]? = some x := ⟨_, List.getElem?_eq_getElem hlt'⟩
      have hI := HI.out.keep (C1.out.trans hCh (fun _ _ h => h)) (fun _ _ _ => id) (fun _ _ h => h)
      obtain ⟨cx, hcx, _, _, hcell⟩ := hI.at k x hx
      obtain ⟨xs, xa, xn, xc, rfl⟩ := hcx.form
      have c0 : wr.cell? ⟨b, off + k * 7, none⟩ = some (.int .u64 0) := hcell 0 _ rfl
      have c1 : wr.cell? ⟨b, off + k * 7 + 1, none⟩ = some (.int .i64 (Int.ofNat x.ht)) := hcell 1 _ rfl
      have c2 : wr.cell? ⟨b, off + k * 7 + 2, none⟩ = some (.int .i64 0) := hcell 2 _ rfl
      have c3 : wr.cell? ⟨b, off + k * 7 + 3, none⟩ = some (.int .i64 0) := hcell 3 _ rfl
      have c4 : wr.cell? ⟨b, off + k * 7 + 4, none⟩ = some (.int .i64 0) := hcell 4 _ rfl
      have c5 : wr.cell? ⟨b, off + k * 7 + 5, none⟩ = some (.string xs) := hcell 5 _ rfl
      have c6 : wr.cell? ⟨b, off + k * 7 + 6, none⟩ = some (.slice xa xn xc) := hcell 6 _ rfl
      have HX := hid hcx
      have HXM := hid (List.mem_of_getElem? hx)
      have HCH := hid hCh
      have r1 : wr.cell? ⟨w.heap.size, 1, none⟩ = some (.int .i64 (h : Int)) := (hCh.blk B1.out id).cell 1
      have hbw : w.heap.size < wr.heap.size := by have := hCh.size; omega
      have hb1 : w.heap.size ≠ wr.heap.size := Nat.ne_of_lt hbw
      have hb2 : wr.heap.size ≠ w.heap.size := Ne.symm hb1
      clear hcell hcx hx hI hCh
      have y1 : decide (k < n) = true := decide_eq_true hlt
      have y2 : decide ((k : Int) < (n : Int)) = true := decide_eq_true (by omega)
      go_wp2_with fail
      refine calls_world fun W3 hW3 => ?_
      have D3 := hid (show Ch (fun _ => False) wr W3 from by rw [hW3]; exact (Ch.refl _ wr).alloc _)
      clear hW3
      rw [HM1.out]
      refine (IH.out x HXM.out [.int .u64 0, .int .i64 (Int.ofNat x.ht), .int .i64 0, .int .i64 0, .int .i64 0, .string xs, .slice xa xn xc] W3 S (HX.out.keep D3.out (fun _ _ _ => id) (fun _ _ h => h))).mono ?_
      rintro e w4 ⟨rfl, hc4⟩
      go_wp2_with fail
      refine ⟨⟨k + 1, by omega, by push_cast; rfl, (HCH.out.trans D3.out (fun _ _ h => h)).trans hc4 (fun _ _ h => h)⟩, by simp only [intOf]; omega⟩
    · obtain rfl : n = k := by omega
      have y1 : decide (n < n) = false := decide_eq_false (by omega)
      go_wp2_with fail
      go_ret
      exact ⟨rfl, C1.out.trans hCh (fun _ _ h => h)⟩
set_option maxHeartbeats 4000000 in
theorem check_nodeF (p : Option Addr) (h : Nat) (ks : List T) (m b off c : Nat) (w : World) (S : Nat → Prop) (hm16 : m + 1 ≤ 16) (hm : h = m + 1) (hI : InTs w S (some ⟨b, off, none⟩) ks.length ks) (hf1 : 2 ≤ ks.length) (hf2 : ks.length ≤ 4) (hf3 : ∀ t ∈ ks, T.fit m t)
    (ih : ∀ t ∈ ks, ∀ (cs : List Value) (w : World) (S : Nat → Prop), TreeAt w S t cs → Calls Tryz.prog 199 #[.pointer p, .agg cs.toArray, .bool true, .int .i64 (m : Int)] w fun e w' => e = .returned (.int .i64 0) ∧ Ch (fun _ => False) w w') :
    Calls Tryz.prog 199 #[.pointer p, .agg #[.int .u64 0, .int .i64 (h : Int), .int .i64 0, .int .i64 0, .int .i64 0, .string ⟨#[]⟩, .slice (some ⟨b, off, none⟩) ks.length c], .bool false, .int .i64 0] w fun e w' => e = .returned (.int .i64 0) ∧ Ch (fun _ => False) w w' := by
  have hh1 : 1 ≤ h := by omega
  have hh2 : h ≤ 16 := by omega
  have d0 : ((h : Int) == 0) = false := by rw [beq_eq_false_iff_ne]; omega
  have d1 : ((h : Int) != (h : Int)) = false := by simp
  have hm1 : (h : Int) - 1 = (m : Int) := by omega
  have HI := hid hI
  have IH := hid ih
  have HM1 := hid hm1
  clear hI ih hf3 hm hm1
  obtain ⟨n, hn⟩ : ∃ n, n = ks.length := ⟨_, rfl⟩
  rw [← hn] at hf1 hf2
  rw [← hn]
  have HN := hid hn
  clear hn
  go_enter Tryz.func199, Tryz.ntmps199
  go_wp2_with fail
  refine calls_world fun W0 hW0 => ?_
  have C0 := hid (show Ch (fun _ => False) w W0 from by rw [hW0]; exact (Ch.refl _ w).alloc _)
  have B0 := hid (show Blk W0 w.heap.size 152 #[.int .u64 0, .int .i64 (h : Int), .int .i64 0, .int .i64 0, .int .i64 0, .string ⟨#[]⟩, .slice (some ⟨b, off, none⟩) n c] from by rw [hW0]; exact Blk.new w _ _)
  clear hW0
  refine (kind_node h b off n c hh1 hh2 hf1 hf2 W0).mono ?_
  rintro e W1 ⟨rfl, hc⟩
  have C1 := hid (C0.out.trans hc (fun _ _ h => h))
  have B1 := hid (hc.blk B0.out id)
  have r1 : W1.cell? ⟨w.heap.size, 1, none⟩ = some (.int .i64 (h : Int)) := B1.out.cell 1
  have r6 : W1.cell? ⟨w.heap.size, 6, none⟩ = some (.slice (some ⟨b, off, none⟩) n c) := B1.out.cell 6
  clear hc B0 C0
  have hbl := B1.out.lt
  go_wp2_with fail
  go_loopw [58] (fun i W => ∃ k : Nat, k ≤ n ∧ i = .int .i64 (k : Int) ∧ Ch (fun _ => False) W1 W) (fun i _ => n - (intOf i).toNat)
  case atStart => exact ⟨0, Nat.zero_le _, rfl, Ch.refl _ _⟩
  case round =>
    clear r1 r6
    obtain ⟨k, hk, rfl, hCh⟩ := hrel
    by_cases hlt : k < n
    · have hlt' : k < ks.length := by rw [← HN.out]; exact hlt
      obtain ⟨x, hx⟩ : ∃ x, ks[k]? = some x := ⟨_, List.getElem?_eq_getElem hlt'⟩
      have hI := HI.out.keep (C1.out.trans hCh (fun _ _ h => h)) (fun _ _ _ => id) (fun _ _ h => h)
      obtain ⟨cx, hcx, _, _, hcell⟩ := hI.at k x hx
      obtain ⟨xs, xa, xn, xc, rfl⟩ := hcx.form
      have c0 : wr.cell? ⟨b, off + k * 7, none⟩ = some (.int .u64 0) := hcell 0 _ rfl
      have c1 : wr.cell? ⟨b, off + k * 7 + 1, none⟩ = some (.int .i64 (Int.ofNat x.ht)) := hcell 1 _ rfl
      have c2 : wr.cell? ⟨b, off + k * 7 + 2, none⟩ = some (.int .i64 0) := hcell 2 _ rfl
      have c3 : wr.cell? ⟨b, off + k * 7 + 3, none⟩ = some (.int .i64 0) := hcell 3 _ rfl
      have c4 : wr.cell? ⟨b, off + k * 7 + 4, none⟩ = some (.int .i64 0) := hcell 4 _ rfl
      have c5 : wr.cell? ⟨b, off + k * 7 + 5, none⟩ = some (.string xs) := hcell 5 _ rfl
      have c6 : wr.cell? ⟨b, off + k * 7 + 6, none⟩ = some (.slice xa xn xc) := hcell 6 _ rfl
      have HX := hid hcx
      have HXM := hid (List.mem_of_getElem? hx)
      have HCH := hid hCh
      have r1 : wr.cell? ⟨w.heap.size, 1, none⟩ = some (.int .i64 (h : Int)) := (hCh.blk B1.out id).cell 1
      have hbw : w.heap.size < wr.heap.size := by have := hCh.size; omega
      have hb1 : w.heap.size ≠ wr.heap.size := Nat.ne_of_lt hbw
      have hb2 : wr.heap.size ≠ w.heap.size := Ne.symm hb1
      clear hcell hcx hx hI hCh
      have y1 : decide (k < n) = true := decide_eq_true hlt
      have y2 : decide ((k : Int) < (n : Int)) = true := decide_eq_true (by omega)
      go_wp2_with fail
      refine calls_world fun W3 hW3 => ?_
      have D3 := hid (show Ch (fun _ => False) wr W3 from by rw [hW3]; exact (Ch.refl _ wr).alloc _)
      clear hW3
      rw [HM1.out]
      refine (IH.out x HXM.out [.int .u64 0, .int .i64 (Int.ofNat x.ht), .int .i64 0, .int .i64 0, .int .i64 0, .string xs, .slice xa xn xc] W3 S (HX.out.keep D3.out (fun _ _ _ => id) (fun _ _ h => h))).mono ?_
      rintro e w4 ⟨rfl, hc4⟩
      go_wp2_with fail
      refine ⟨⟨k + 1, by omega, by push_cast; rfl, (HCH.out.trans D3.out (fun _ _ h => h)).trans hc4 (fun _ _ h => h)⟩, by simp only [intOf]; omega⟩
    · obtain rfl : n = k := by omega
      have y1 : decide (n < n) = false := decide_eq_false (by omega)
      go_wp2_with fail
      go_ret
      exact ⟨rfl, C1.out.trans hCh (fun _ _ h => h)⟩
theorem check_any (p : Option Addr) (t : T) : ∀ (g : Nat) (cs : List Value) (w : World) (S : Nat → Prop), g ≤ 16 → T.fit g t → TreeAt w S t cs → Calls Tryz.prog 199 #[.pointer p, .agg cs.toArray, .bool true, .int .i64 (g : Int)] w fun e w' => e = .returned (.int .i64 0) ∧ Ch (fun _ => False) w w' := by
  induction t using T.ind with
  | hl s =>
    intro g cs w S hg hf hT
    cases hT
    obtain ⟨rfl, h1, h2⟩ := fit_leaf hf
    exact check_leafT p s h1 h2 w
  | hn h ks ih =>
    intro g cs w S hg hf hT
    obtain ⟨b, off, c, rfl, hI, hne⟩ := hT.kids
    obtain ⟨m, rfl, hm, hf1, hf2, hf3⟩ := fit_node hf
    have t := check_nodeT p h ks m b off c w S hg hm hI hf1 hf2 hf3 (fun t ht cs w S hT => ih t ht m cs w S (by omega) (hf3 t ht) hT)
    rw [show (h : Int) = ((m + 1 : Nat) : Int) from by rw [hm]] at t
    rw [← hm] at t
    rw [← hm]
    exact t
theorem checkF_any (p : Option Addr) (t : T) (cs : List Value) (w : World) (S : Nat → Prop) (hg : t.good) (hT : TreeAt w S t cs) : Calls Tryz.prog 199 #[.pointer p, .agg cs.toArray, .bool false, .int .i64 0] w fun e w' => e = .returned (.int .i64 0) ∧ Ch (fun _ => False) w w' := by
  cases t with
  | leaf s =>
    cases hT
    rcases hg with ⟨s', hs, h1, h2⟩ | ⟨g, _, hf⟩
    · injection hs with hs
      subst hs
      exact check_leafF p s h1 h2 w
    · obtain ⟨_, h1, h2⟩ := fit_leaf hf
      exact check_leafF p s (by omega) h2 w
  | node h ks =>
    obtain ⟨b, off, c, rfl, hI, hne⟩ := hT.kids
    rcases hg with ⟨s', hs, _⟩ | ⟨g, hg16, hf⟩
    · cases hs
    · obtain ⟨m, rfl, hm, hf1, hf2, hf3⟩ := fit_node hf
      exact check_nodeF p h ks m b off c w S hg16 hm hI hf1 hf2 hf3 (fun t ht cs w S hT => check_any p t m cs w S (by omega) (hf3 t ht) hT)
theorem gbytes_any (t : T) (cs : List Value) (w : World) (S : Nat → Prop) (hg : t.good) (hT : TreeAt w S t cs) (hb : t.bytes ≤ 65536) : Calls Tryz.prog 200 #[.agg cs.toArray] w fun e w' => e = .returned (.int .i64 (t.bytes : Nat)) ∧ Ch (fun _ => False) w w' := by
  rcases hg with ⟨s, rfl, h1, h2⟩ | ⟨g, hg16, hf⟩
  · cases hT
    exact bytes_leaf s hb w
  · exact bytes_any t g cs w S hf hT hb
theorem gnew_any (t : T) (cs : List Value) (w : World) (S : Nat → Prop) (hg : t.good) (hT : TreeAt w S t cs) (hb : t.cnt ≤ 65536) : Calls Tryz.prog 178 #[.agg cs.toArray] w fun e w' => e = .returned (.int .i64 (t.cnt : Nat)) ∧ Ch (fun _ => False) w w' := by
  rcases hg with ⟨s, rfl, h1, h2⟩ | ⟨g, hg16, hf⟩
  · cases hT
    exact new_leaf s h1 h2 w
  · exact new_any t g cs w S hg16 hf hT hb
theorem knd_ne (t : T) : (t.knd == 1) = false := by cases t <;> rfl
set_option maxHeartbeats 4000000 in
theorem pcheck_any (ab : Nat) (t : T) (cs : List Value) (w : World) (S : Nat → Prop) (hg : t.good) (hT : TreeAt w S t cs) (hb : t.bytes ≤ 65536) : Calls Tryz.prog 177 #[.pointer (some ⟨ab, 0, none⟩), .agg cs.toArray] w fun e w' => e = .returned (.int .i64 0) ∧ Ch (fun _ => False) w w' := by
  obtain ⟨s, a, n, c, rfl⟩ := hT.form
  have d1 := knd_ne t
  have d2 : decide (65536 < t.bytes) = false := decide_eq_false (by omega)
  have d3 : decide ((65536 : Int) < (t.bytes : Int)) = false := decide_eq_false (by omega)
  have HT := hid hT
  have HG := hid hg
  clear hT hg
  go_enter Tryz.func177, Tryz.ntmps177
  go_wp2_with fail
  refine calls_world fun W0 hW0 => ?_
  have C0 := hid (show Ch (fun _ => False) w W0 from by rw [hW0]; exact (Ch.refl _ w).alloc _)
  have B0 := hid (show Blk W0 w.heap.size 152 #[.int .u64 0, .int .i64 (Int.ofNat t.ht), .int .i64 0, .int .i64 0, .int .i64 0, .string s, .slice a n c] from by rw [hW0]; exact Blk.new w _ _)
  clear hW0
  refine (kind_any t [.int .u64 0, .int .i64 (Int.ofNat t.ht), .int .i64 0, .int .i64 0, .int .i64 0, .string s, .slice a n c] W0 S HG.out (HT.out.keep C0.out (fun _ _ _ => id) (fun _ _ h => h))).mono ?_
  rintro e W1 ⟨rfl, hc⟩
  have C1 := hid (C0.out.trans hc (fun _ _ h => h))
  have B1 := hid (hc.blk B0.out id)
  clear hc B0 C0
  have r0 : W1.cell? ⟨w.heap.size, 0, none⟩ = some (.int .u64 0) := B1.out.cell 0
  have r1 : W1.cell? ⟨w.heap.size, 1, none⟩ = some (.int .i64 (Int.ofNat t.ht)) := B1.out.cell 1
  have r2 : W1.cell? ⟨w.heap.size, 2, none⟩ = some (.int .i64 0) := B1.out.cell 2
  have r3 : W1.cell? ⟨w.heap.size, 3, none⟩ = some (.int .i64 0) := B1.out.cell 3
  have r4 : W1.cell? ⟨w.heap.size, 4, none⟩ = some (.int .i64 0) := B1.out.cell 4
  have r5 : W1.cell? ⟨w.heap.size, 5, none⟩ = some (.string s) := B1.out.cell 5
  have r6 : W1.cell? ⟨w.heap.size, 6, none⟩ = some (.slice a n c) := B1.out.cell 6
  go_wp2_with fail
  refine (checkF_any (some ⟨ab, 0, none⟩) t [.int .u64 0, .int .i64 (Int.ofNat t.ht), .int .i64 0, .int .i64 0, .int .i64 0, .string s, .slice a n c] W1 S HG.out (HT.out.keep C1.out (fun _ _ _ => id) (fun _ _ h => h))).mono ?_
  rintro e W2 ⟨rfl, hc⟩
  have C2 := hid (C1.out.trans hc (fun _ _ h => h))
  have B2 := hid (hc.blk B1.out id)
  clear hc B1 C1 r0 r1 r2 r3 r4 r5 r6
  have r0 : W2.cell? ⟨w.heap.size, 0, none⟩ = some (.int .u64 0) := B2.out.cell 0
  have r1 : W2.cell? ⟨w.heap.size, 1, none⟩ = some (.int .i64 (Int.ofNat t.ht)) := B2.out.cell 1
  have r2 : W2.cell? ⟨w.heap.size, 2, none⟩ = some (.int .i64 0) := B2.out.cell 2
  have r3 : W2.cell? ⟨w.heap.size, 3, none⟩ = some (.int .i64 0) := B2.out.cell 3
  have r4 : W2.cell? ⟨w.heap.size, 4, none⟩ = some (.int .i64 0) := B2.out.cell 4
  have r5 : W2.cell? ⟨w.heap.size, 5, none⟩ = some (.string s) := B2.out.cell 5
  have r6 : W2.cell? ⟨w.heap.size, 6, none⟩ = some (.slice a n c) := B2.out.cell 6
  go_wp2_with fail
  refine (gbytes_any t [.int .u64 0, .int .i64 (Int.ofNat t.ht), .int .i64 0, .int .i64 0, .int .i64 0, .string s, .slice a n c] W2 S HG.out (HT.out.keep C2.out (fun _ _ _ => id) (fun _ _ h => h)) hb).mono ?_
  rintro e W3 ⟨rfl, hc⟩
  go_wp2_with fail
  go_ret
  exact ⟨rfl, C2.out.trans hc (fun _ _ h => h)⟩
end Go.Proofs.YtefpabicgefciaaGreat
namespace Go.Proofs.YtefpabicgefciaaGreat
open Go.RowKit
set_option linter.unusedVariables false
set_option linter.unusedSimpArgs false
set_option linter.unusedSectionVars false
theorem exec_len {P : Program} {o : Oper} {a : Act} {x : Operand} {tys : Array TypeId} (ho : o.op = .call { callee := .builtin .len, args := #[x], argTypes := tys }) {u v : Value} {W : World} (hx : a.eval x = u) (hr : (Builtin.len_ tys o.type #[u]).run P W = .ok v W) : (execOp a.eval o).run P W = .ok (.value v) W := by
  simp [execOp, ho, resolve, invoke, builtin, hx, hr, Result.andThen]
def i64s (l : List Int) : Array Value := (l.map (Value.int .i64)).toArray
theorem i64s_get (l : List Int) (i : Nat) (h : i < l.length) : (i64s l)[i]? = some (.int .i64 (lk l i)) := by simp [i64s, lk, h]
theorem i64s_set (l : List Int) (i : Nat) (v : Int) : (i64s l).setIfInBounds i (.int .i64 v) = i64s (l.set i v) := by simp [i64s, List.map_set]
theorem fill_i64s (f : Nat → Int) (n : Nat) : fillA (fun i => .int .i64 (f i)) (.int .i64 0) n n = i64s ((List.range n).map f) := by
  apply Array.ext
  · simp [fillA_size, i64s]
  · intro i h1 h2
    rw [fillA_size] at h1
    simp [fillA, i64s, h1]
set_option maxRecDepth 100000 in
set_option maxHeartbeats 1000000 in
theorem free_len (n : Nat) (lb g0 : Nat) (xs : List Int) (hn : n ≤ 16384) (hx : xs.length = n) (w : World) (hlb : lb < w.heap.size) (h0 : w.cell? ⟨lb, 0, none⟩ = some (.slice (some ⟨g0, 0, none⟩) n n)) (hb : Blk w g0 3 (i64s xs)) :
    Calls Tryz.prog 78 #[.pointer (some ⟨lb, 0, none⟩)] w fun e w' => ∃ A, e = .returned (.slice A n n) ∧ Ch (fun _ => False) w w' := by
  have hmk := fun W : World => run_make_x (P := Tryz.prog) 69 3 (.int .i64 0) 1 8 Tryz.underlying69 (by kernel_rfl) (by decide) n (by omega) W
  have hsz1 : (Tryz.prog.info? 3).map (·.size) = some 1 := by kernel_rfl
  have HB := hid hb
  have Hx := hid hx
  clear hb hx
  go_enter Tryz.func78, Tryz.ntmps78
  go_wp2_with (refine wpList_copy_full rfl (.tmp 14) (.tmp 18) 69 69 rfl 3 Tryz.underlying69 1 hsz1 w.heap.size n n (some ⟨g0, 0, none⟩) n rfl rfl (madeX #[.int .i64 0] n) 3 ?k1 ?k2 (xs.map (Value.int .i64)) ?k3 ?k4 ?k5 ?k6)
  case k1 => exact Blk.push rfl
  case k2 => rw [madeX_size]; omega
  case k3 => rw [List.length_map, Hx.out]; omega
  case k4 =>
    intro _
    refine ⟨_, rfl, fun j v hj => ?_⟩
    rw [addr_add0]
    refine (World.cell?_alloc_lt w _ _ HB.out.lt).trans ((HB.out.cell j).trans ?_)
    simpa [i64s] using hj
  case k5 =>
    intro v hv
    obtain ⟨x, _, rfl⟩ := List.mem_map.1 hv
    rfl
  case k6 =>
    intro w1 hb hc
    have HC := hid (((Ch.refl (fun _ => False) w).alloc _).trans hc (fun i hi h => absurd hi (by omega)))
    have HG := hid (show Blk w1 w.heap.size 3 (i64s xs) from hb)
    clear hb hc h0 hlb hmk
    go_wp2_with fail
    go_loopw [4, 5] (fun i j W => ∃ (k : Nat) (ys : List Int), k ≤ n ∧ ys.length = n ∧ i = .int .i64 k ∧ j = .int .i64 ((n : Int) - 1 - k) ∧ Blk W w.heap.size 3 (i64s ys) ∧ Ch (fun _ => False) w W) (fun i _ _ => n - (intOf i).toNat)
    case atStart => exact ⟨0, xs, Nat.zero_le _, Hx.out, rfl, by simp, HG.out, HC.out⟩
    case round =>
      clear HG HC Hx
      obtain ⟨k, ys, hk, hl, rfl, rfl, hG, hC⟩ := hrel
      have HG := hid hG
      have HC := hid hC
      have HL := hid hl
      clear hG hC hl
      by_cases hlt : (k : Int) < (n : Int) - 1 - k
      · obtain ⟨m, hm⟩ : ∃ m : Nat, m = n - 1 - k := ⟨_, rfl⟩
        rw [show ((n : Int) - 1 - (k : Int)) = (m : Int) by omega] at hlt ⊢
        have hkm : k < m := by omega
        have hmn : m < n := by omega
        have hkn : k < n := by omega
        have hM := hid hm
        clear hm
        have e1 : decide ((k : Int) < (m : Int)) = true := decide_eq_true hlt
        have e2 : decide (k < m) = true := decide_eq_true hkm
        have ck : wr.cell? ⟨w.heap.size, k, none⟩ = some (.int .i64 (lk ys k)) := (HG.out.cell k).trans (i64s_get ys k (by rw [HL.out]; exact hkn))
        have cm : wr.cell? ⟨w.heap.size, m, none⟩ = some (.int .i64 (lk ys m)) := (HG.out.cell m).trans (i64s_get ys m (by rw [HL.out]; exact hmn))
        have fk := HG.out.free k
        have fm := HG.out.free m
        have d1 : k ≠ m := by omega
        have d2 : m ≠ k := by omega
        go_wp2_with fail
        refine Mix.wp_region_mix (fun _ => True) (fun i => ([0, 0, 1, 1, 0, 0, 0, 0, 0, 0, 0, 0, 0, 2, 0, 2] : List Nat).getD i 0) [0, 1, 2, 3, 4, 5, 6, 7, 8, 9, 10, 11, 12, 13, 14, 15] (by kernel_rfl) (by kernel_rfl) ?_
        repeat (first | (refine Mix.mix_q (by simp only [List.getElem?_toArray, List.getElem?_cons_zero, List.getElem?_cons_succ]; exact rfl) rfl ?_; go_big_quiet_step (fail); refine wpQuiet_nil ?_) | (refine Mix.mix_p (by simp only [List.getElem?_toArray, List.getElem?_cons_zero, List.getElem?_cons_succ]; exact rfl) rfl rfl ?_; go_big_quiet_step (fail); refine wpQuiet_nil ?_))
        refine Mix.mix_e (by simp only [List.getElem?_toArray, List.getElem?_cons_zero, List.getElem?_cons_succ]; exact rfl) rfl fun W1 hW1 => ?_
        obtain ⟨k1, rfl⟩ := hW1
        go_wp2_with fail
        refine Mix.mix_world fun W2 hW2 => ?_
        have G2 := hid (show Blk W2 w.heap.size 3 (i64s (ys.set k (lk ys m))) from by rw [hW2, ← i64s_set]; exact (HG.out.drewN k1).put k _)
        have C2 := hid (show Ch (fun _ => False) w W2 from by rw [hW2]; exact (HC.out.drewN k1).set (fun ho => absurd ho (Nat.lt_irrefl _)) _)
        have q1 : W2.cell? ⟨w.heap.size, m, none⟩ = some (.int .i64 (lk ys m)) := (G2.out.cell m).trans ((i64s_get _ m (by rw [List.length_set, HL.out]; exact hmn)).trans (by simp [lk, d1]))
        have q2 := G2.out.free m
        clear hW2 ck cm fk fm
        repeat (first | (refine Mix.mix_q (by simp only [List.getElem?_toArray, List.getElem?_cons_zero, List.getElem?_cons_succ]; exact rfl) rfl ?_; go_big_quiet_step (fail); refine wpQuiet_nil ?_) | (refine Mix.mix_p (by simp only [List.getElem?_toArray, List.getElem?_cons_zero, List.getElem?_cons_succ]; exact rfl) rfl rfl ?_; go_big_quiet_step (fail); refine wpQuiet_nil ?_))
        refine Mix.mix_e (by simp only [List.getElem?_toArray, List.getElem?_cons_zero, List.getElem?_cons_succ]; exact rfl) rfl fun W3 hW3 => ?_
        obtain ⟨k2, rfl⟩ := hW3
        go_wp2_with fail
        intro k3
        go_wp2_with fail
        refine ⟨⟨k + 1, (ys.set k (lk ys m)).set m (lk ys k), hkn, by simp [HL.out], by push_cast; rfl, ?_, ?_, ?_⟩, by simp only [intOf]; omega⟩
        · have := hM.out
          congr 1
          omega
        · rw [← i64s_set]; exact ((G2.out.drewN k2).put m _).drewN k3
        · exact ((C2.out.drewN k2).set (fun ho => absurd ho (Nat.lt_irrefl _)) _).drewN k3
      · have e1 : decide ((k : Int) < (n : Int) - 1 - k) = false := decide_eq_false hlt
        go_wp2_with fail
        go_ret
        exact ⟨⟨_, rfl⟩, HC.out⟩
set_option maxRecDepth 100000 in
set_option maxHeartbeats 1000000 in
theorem slots0 (n lb g1 : Nat) (hn : n ≤ 16384) (w : World) (h1 : w.cell? ⟨lb, 1, none⟩ = some (.slice (some ⟨g1, 0, none⟩) n n)) (hb : ∀ k, k < n → w.cell? ⟨g1, k, none⟩ = some (.int .u8 0)) :
    Calls Tryz.prog 124 #[.pointer (some ⟨lb, 0, none⟩), .int .u8 2] w fun e w' => e = .returned (.slice none 0 0) ∧ w' = w := by
  have HB := hid hb
  clear hb
  go_enter Tryz.func124, Tryz.ntmps124
  go_wp2_with fail
  go_loopw [5, 16] (fun r i W => ∃ k : Nat, k ≤ n ∧ r = .slice none 0 0 ∧ i = .int .i64 k ∧ W = w) (fun _ i _ => n - (intOf i).toNat)
  case atStart => exact ⟨0, Nat.zero_le _, rfl, rfl, rfl⟩
  case round =>
    obtain ⟨k, hk, rfl, rfl, rfl⟩ := hrel
    by_cases hlt : k < n
    · have c := HB.out k hlt
      go_wp2_with fail
      exact ⟨⟨k + 1, hlt, by simp⟩, by simp only [intOf]; omega⟩
    · obtain rfl : k = n := by omega
      go_wp2_with fail
      go_ret
      exact ⟨rfl, rfl⟩
set_option maxRecDepth 100000 in
set_option maxHeartbeats 1000000 in
theorem wd0 (n lb g1 : Nat) (hn : n ≤ 16384) (w : World) (h1 : w.cell? ⟨lb, 1, none⟩ = some (.slice (some ⟨g1, 0, none⟩) n n)) (hb : ∀ k, k < n → w.cell? ⟨g1, k, none⟩ = some (.int .u8 0)) :
    Calls Tryz.prog 79 #[.pointer (some ⟨lb, 0, none⟩)] w fun e w' => e = .returned (.slice none 0 0) ∧ w' = w := by
  go_enter Tryz.func79, Tryz.ntmps79
  go_wp2_with fail
  refine (slots0 n lb g1 hn w h1 hb).mono ?_
  rintro e _ ⟨rfl, rfl⟩
  go_wp2_with fail
  go_ret
  exact ⟨rfl, rfl⟩
/-- What Stats reads of an arena. -/
structure StM (w : World) (ab n : Nat) (lb mb g0 g1 : Nat) (xs : List Int) : Prop where
  a : Blk w ab 175 #[.int .i64 n, .pointer (some ⟨lb, 0, none⟩), .map (some mb), .int .i64 0, .int .i64 0, .int .i64 0]
  m : w.heap[mb]? = some (.map #[] 0)
  llt : lb < w.heap.size
  l0 : w.cell? ⟨lb, 0, none⟩ = some (.slice (some ⟨g0, 0, none⟩) n n)
  l1 : w.cell? ⟨lb, 1, none⟩ = some (.slice (some ⟨g1, 0, none⟩) n n)
  b0 : Blk w g0 3 (i64s xs)
  b1 : Blk w g1 256 (fillA (fun _ => .int .u8 0) (.int .u8 0) n n)
  len : xs.length = n
theorem ArN.st {w : World} {ab n : Nat} {g : Int} {lb mb : Nat} (h : ArN w ab n g lb mb) : ∃ g0 g1 xs, StM w ab n lb mb g0 g1 xs := by
  obtain ⟨g0, g1, g2, hf⟩ := h.f
  refine ⟨g0, g1, (List.range n).map (fun i : Nat => (n : Int) - 1 - i), h.a, h.m, hf.l.lt, hf.l.cell 0, hf.l.cell 1, ?_, hf.b1, by simp⟩
  have := hf.b0
  rw [fill_i64s (fun i : Nat => (n : Int) - 1 - i)] at this
  exact this
theorem StM.lt_m {w : World} {ab n lb mb g0 g1 : Nat} {xs : List Int} (h : StM w ab n lb mb g0 g1 xs) : mb < w.heap.size := by
  have := h.m
  exact (Array.getElem?_eq_some_iff.1 this).1
theorem StM.keep {w w' : World} {ab n lb mb g0 g1 : Nat} {xs : List Int} (h : StM w ab n lb mb g0 g1 xs) (c : Ch (fun _ => False) w w') : StM w' ab n lb mb g0 g1 xs :=
  ⟨c.blk h.a id, (c.block mb h.lt_m id).trans h.m, Nat.lt_of_lt_of_le h.llt c.size, (c.cell h.llt id).trans h.l0, (c.cell h.llt id).trans h.l1, c.blk h.b0 id, c.blk h.b1 id, h.len⟩
theorem wd0_q (n lb g1 : Nat) (hn : n ≤ 16384) (w : World) (h1 : w.cell? ⟨lb, 1, none⟩ = some (.slice (some ⟨g1, 0, none⟩) n n)) (hb : ∀ k, k < n → w.cell? ⟨g1, k, none⟩ = some (.int .u8 0)) (k : Nat) :
    Calls Tryz.prog 79 #[.pointer (some ⟨lb, 0, none⟩)] (w.drewN k) fun e w' => e = .returned (.slice none 0 0) ∧ ∃ m, w' = w.drewN m :=
  (wd0 n lb g1 hn (w.drewN k) (by rw [← h1]; rfl) (fun j hj => by rw [← hb j hj]; rfl)).mono fun e w' h => ⟨h.1, k, h.2⟩
set_option maxRecDepth 100000 in
set_option maxHeartbeats 1000000 in
theorem stats_ok (ab n lb mb g0 g1 : Nat) (xs : List Int) (hn : n ≤ 16384) (w : World) (h : StM w ab n lb mb g0 g1 xs) :
    Calls Tryz.prog 24 #[.pointer (some ⟨ab, 0, none⟩)] w fun e w' => e = .returned (.agg #[.int .i64 n, .int .i64 n, .int .i64 0, .int .i64 0, .int .i64 0, .int .i64 0, .int .i64 0]) ∧ Ch (fun _ => False) w w' := by
  go_enter Tryz.func24, Tryz.ntmps24
  go_wp2_with fail
  refine at_world fun W hW => ?_
  have cW : Ch (fun _ => False) w W := by rw [hW]; exact (Ch.refl _ w).alloc _
  have bR : Blk W w.heap.size 66 #[.int .i64 0, .int .i64 0, .int .i64 0, .int .i64 0, .int .i64 0, .int .i64 0, .int .i64 0] := by rw [hW]; exact Blk.new w _ _
  have HW := hid cW
  have HB := hid bR
  have HM := hid (h.keep cW)
  have hne : ab ≠ w.heap.size := Nat.ne_of_lt h.a.lt
  clear hW cW bR h
  obtain ⟨S, hS⟩ : ∃ S : Nat → Prop, ∀ k, S k ↔ k = ab := ⟨_, fun _ => Iff.rfl⟩
  have hSp : Mix.Has S ab := (hS _).2 rfl
  have HS := hid hS
  clear hS
  have a0 : W.cell? ⟨ab, 0, none⟩ = some (.int .i64 n) := HM.out.a.cell 0
  have a1 : W.cell? ⟨ab, 1, none⟩ = some (.pointer (some ⟨lb, 0, none⟩)) := HM.out.a.cell 1
  have a2 : W.cell? ⟨ab, 2, none⟩ = some (.map (some mb)) := HM.out.a.cell 2
  have a3 : W.cell? ⟨ab, 3, none⟩ = some (.int .i64 0) := HM.out.a.cell 3
  have a4 : W.cell? ⟨ab, 4, none⟩ = some (.int .i64 0) := HM.out.a.cell 4
  have a5 : W.cell? ⟨ab, 5, none⟩ = some (.int .i64 0) := HM.out.a.cell 5
  refine Mix.wp_region_mix S (fun i => ([1, 1, 1, 4, 0, 0, 0, 4, 3, 0, 1, 1, 1, 4, 0, 1, 1, 1, 4, 0, 0, 1, 1, 1, 4, 1, 1, 1, 4, 1, 1, 1, 4, 0, 2] : List Nat).getD i 0) [0, 1, 2, 3, 4, 5, 6, 7, 10, 11, 12, 13, 15, 16, 17, 18, 21, 22, 23, 24, 25, 26, 27, 28, 29, 30, 31, 32, 8, 9, 14, 19, 20, 33, 34] (by kernel_rfl) (by kernel_rfl) ?_
  repeat (first | (refine Mix.mix_q (by simp only [List.getElem?_toArray, List.getElem?_cons_zero, List.getElem?_cons_succ]; exact rfl) rfl ?_; go_big_quiet_step (fail); refine wpQuiet_nil ?_) | (refine Mix.mix_p (by simp only [List.getElem?_toArray, List.getElem?_cons_zero, List.getElem?_cons_succ]; exact rfl) rfl rfl ?_; go_big_quiet_step (fail); refine wpQuiet_nil ?_) | (refine Mix.mix_s (by simp only [List.getElem?_toArray, List.getElem?_cons_zero, List.getElem?_cons_succ]; exact rfl) rfl rfl ?_; go_big_quiet_step (fail); refine wpQuiet_nil ?_))
  refine Mix.mix_a (by simp only [List.getElem?_toArray, List.getElem?_cons_zero, List.getElem?_cons_succ]; exact rfl) rfl fun W1 hW1 => ?_
  obtain ⟨k1, rfl⟩ := hW1
  go_wp2_with fail
  refine (free_len n lb g0 xs hn HM.out.len (W.drewN k1) HM.out.llt (by rw [← HM.out.l0]; rfl) (HM.out.b0.drewN k1)).mono ?_
  rintro e w2 ⟨A, rfl, hc⟩
  have HC := hid (((Ch.refl (fun _ => False) W).drewN k1).trans hc (fun _ _ h => h))
  have HM2 := hid (HM.out.keep HC.out)
  clear hc
  go_wp2_with fail
  refine ⟨fun j' hj' => HC.out.block j' (Nat.lt_of_lt_of_le (by rw [(HS.out j').1 hj']; exact HM.out.a.lt) (Nat.le_refl _)) id, ?_⟩
  clear a0 a1 a2 a3 a4 a5
  (refine Mix.mix_q (by simp only [List.getElem?_toArray, List.getElem?_cons_zero, List.getElem?_cons_succ]; exact rfl) rfl ?_; go_big_quiet_step (fail); refine wpQuiet_nil ?_)
  repeat (first | (refine Mix.mix_q (by simp only [List.getElem?_toArray, List.getElem?_cons_zero, List.getElem?_cons_succ]; exact rfl) rfl ?_; go_big_quiet_step (fail); refine wpQuiet_nil ?_) | (refine Mix.mix_p (by simp only [List.getElem?_toArray, List.getElem?_cons_zero, List.getElem?_cons_succ]; exact rfl) rfl rfl ?_; go_big_quiet_step (fail); refine wpQuiet_nil ?_) | (refine Mix.mix_s (by simp only [List.getElem?_toArray, List.getElem?_cons_zero, List.getElem?_cons_succ]; exact rfl) rfl rfl ?_; go_big_quiet_step (fail); refine wpQuiet_nil ?_))
  refine Mix.mix_v (by simp only [List.getElem?_toArray, List.getElem?_cons_zero, List.getElem?_cons_succ]; exact rfl) rfl (.int .i64 0) rfl (fun W' hW' => exec_len rfl rfl (run_len_map (w := W') (P := Tryz.prog) 173 _ mb #[] 0 (by kernel_rfl) (by obtain ⟨z, rfl⟩ := hW'; exact HM2.out.m))) ?_
  simp only [Act.put, List.setIfInBounds_toArray, List.set_cons_succ, List.set_cons_zero]
  repeat (first | (refine Mix.mix_q (by simp only [List.getElem?_toArray, List.getElem?_cons_zero, List.getElem?_cons_succ]; exact rfl) rfl ?_; go_big_quiet_step ((go_at_call 79; exact wd0_q n lb g1 hn _ HM2.out.l1 (fun k hk => (HM2.out.b1.cell k).trans ((fillA_get _ _ _ _ _ hk).trans (by simp))) _)); refine wpQuiet_nil ?_) | (refine Mix.mix_p (by simp only [List.getElem?_toArray, List.getElem?_cons_zero, List.getElem?_cons_succ]; exact rfl) rfl rfl ?_; go_big_quiet_step (fail); refine wpQuiet_nil ?_) | (refine Mix.mix_s (by simp only [List.getElem?_toArray, List.getElem?_cons_zero, List.getElem?_cons_succ]; exact rfl) rfl rfl ?_; go_big_quiet_step (fail); refine wpQuiet_nil ?_))
  have B2 := HC.out.blk HB.out id
  have r0 : w2.cell? ⟨w.heap.size, 0, none⟩ = some (.int .i64 0) := B2.cell 0
  have r1 : w2.cell? ⟨w.heap.size, 1, none⟩ = some (.int .i64 0) := B2.cell 1
  have r2 : w2.cell? ⟨w.heap.size, 2, none⟩ = some (.int .i64 0) := B2.cell 2
  have r3 : w2.cell? ⟨w.heap.size, 3, none⟩ = some (.int .i64 0) := B2.cell 3
  have r4 : w2.cell? ⟨w.heap.size, 4, none⟩ = some (.int .i64 0) := B2.cell 4
  have r5 : w2.cell? ⟨w.heap.size, 5, none⟩ = some (.int .i64 0) := B2.cell 5
  have r6 : w2.cell? ⟨w.heap.size, 6, none⟩ = some (.int .i64 0) := B2.cell 6
  have s0 := B2.free 0
  have s1 := B2.free 1
  have s2 := B2.free 2
  have s3 := B2.free 3
  have s4 := B2.free 4
  have s5 := B2.free 5
  have s6 := B2.free 6
  refine Mix.mix_e (by simp only [List.getElem?_toArray, List.getElem?_cons_zero, List.getElem?_cons_succ]; exact rfl) rfl fun W3 hW3 => ?_
  obtain ⟨k3, rfl⟩ := hW3
  go_wp2_with fail
  intro k4
  go_wp2_with fail
  refine at_world fun W7 hW7 => ?_
  have B7 : Blk W7 w.heap.size 66 #[.int .i64 n, .int .i64 n, .int .i64 0, .int .i64 0, .int .i64 0, .int .i64 0, .int .i64 0] := by rw [hW7]; exact (((((((((B2.drewN k3).put 0 _).put 1 _).put 2 _).put 3 _).put 4 _).put 5 _).put 6 _)).drewN k4
  have c7 : Ch (fun k => k = w.heap.size) w2 W7 := by rw [hW7]; exact ((((((((((Ch.refl (fun k => k = w.heap.size) w2).drewN k3).set (fun _ => rfl) _).set (fun _ => rfl) _).set (fun _ => rfl) _).set (fun _ => rfl) _).set (fun _ => rfl) _).set (fun _ => rfl) _).set (fun _ => rfl) _)).drewN k4
  have t0 : W7.cell? ⟨w.heap.size, 0, none⟩ = some (.int .i64 n) := B7.cell 0
  have t1 : W7.cell? ⟨w.heap.size, 1, none⟩ = some (.int .i64 n) := B7.cell 1
  have t2 : W7.cell? ⟨w.heap.size, 2, none⟩ = some (.int .i64 0) := B7.cell 2
  have t3 : W7.cell? ⟨w.heap.size, 3, none⟩ = some (.int .i64 0) := B7.cell 3
  have t4 : W7.cell? ⟨w.heap.size, 4, none⟩ = some (.int .i64 0) := B7.cell 4
  have t5 : W7.cell? ⟨w.heap.size, 5, none⟩ = some (.int .i64 0) := B7.cell 5
  have t6 : W7.cell? ⟨w.heap.size, 6, none⟩ = some (.int .i64 0) := B7.cell 6
  refine bodyPost_ret (v := .agg #[.int .i64 n, .int .i64 n, .int .i64 0, .int .i64 0, .int .i64 0, .int .i64 0, .int .i64 0]) ?_ rfl ⟨rfl, (HW.out.trans HC.out (fun _ _ h => h)).trans c7 (fun i hi e => absurd hi (by omega))⟩
  clear hW7 c7
  simp [results, Tryz.results24, go_sem, t0, t1, t2, t3, t4, t5, t6]
end Go.Proofs.YtefpabicgefciaaGreat
namespace Go.Proofs.YtefpabicgefciaaGreat
open Go.RowKit
set_option linter.unusedSimpArgs false
set_option linter.unusedVariables false
/-- Block B is a map of these entries. -/
def MapAt (w : World) (B : Nat) (es : List (Int × Value)) : Prop := ∃ bs : List Nat, bs.length = es.length ∧ w.heap[B]? = some (.map ((es.zip bs).map fun x => ({ key := .int .u64 x.1.1, val := x.1.2, born := x.2 } : MapEntry)).toArray es.length)
theorem MapAt.new (w : World) : MapAt (w.alloc (.map #[] 0)) w.heap.size [] := ⟨[], rfl, heap_alloc_new w _⟩
theorem MapAt.ch {fp : Nat → Prop} {w w' : World} {B : Nat} {es : List (Int × Value)} (h : MapAt w B es) (c : Ch fp w w') (hn : ¬ fp B) : MapAt w' B es := by
  obtain ⟨bs, hl, hb⟩ := h
  exact ⟨bs, hl, (c.block B (Array.getElem?_eq_some_iff.1 hb).1 hn).trans hb⟩
/-- What is asked of such a map. -/
def u64At (es : List (Int × Value)) (k : Int) : Option Value := (es.find? fun x => k == x.1).map Prod.snd
theorem findNow_u64 (k : Int) : ∀ (es : List (Int × Value)) (bs : List Nat) (i : Nat), bs.length = es.length →
    ∃ r, Instr.findNow (.int .u64) (.int .u64 k) ((es.zip bs).map fun x => ({ key := .int .u64 x.1.1, val := x.1.2, born := x.2 } : MapEntry)) i = some r ∧ r.map Prod.snd = u64At es k := by
  intro es
  induction es with
  | nil => intro bs i h; exact ⟨none, by simp [Instr.findNow], rfl⟩
  | cons e es ih =>
    intro bs i h
    match bs, h with
    | b :: bs, h =>
      simp at h
      by_cases hk : k = e.1
      · exact ⟨some (i, e.2), by simp [Instr.findNow, Instr.sameNow, hk], by simp [u64At, hk]⟩
      · obtain ⟨r, h1, h2⟩ := ih bs (i + 1) h
        have hk' : (k == e.1) = false := by rw [beq_eq_false_iff_ne]; exact hk
        refine ⟨r, ?_, ?_⟩
        · simp [Instr.findNow, Instr.sameNow, hk']
          exact h1
        · rw [h2]; simp [u64At, List.find?_cons, hk']
section
variable {P : Program} {w : World} {ops : Array Oper} {rest : List Oper} {o : Oper} {a : Act} {Q : Exit → Act → World → Prop}
theorem run_insert_u64 {T kt et : TypeId} (hT : P.underlying T = some (.map kt et)) (hkt : P.underlying kt = some (.int .u64)) {B : Nat} {es : List (Int × Value)} (h : MapAt w B es) (key : Int) (val : Value) (hn : u64At es key = none) :
    ∃ w', (Instr.mapUpdate T (.map (some B)) (.int .u64 key) val).run P w = .ok () w' ∧ MapAt w' B (es ++ [(key, val)]) ∧ Ch (fun b => b = B) w w' := by
  obtain ⟨bs, hl, hb⟩ := h
  obtain ⟨r, h1, h2⟩ := findNow_u64 key es bs 0 hl
  have hr : r = none := by
    cases r with
    | none => rfl
    | some x => rw [hn] at h2; simp at h2
  subst hr
  have hc : (Instr.checkKey false 10000 kt (.int .u64 key)).run P w = .ok () w := MapKept.run_checkKey (k := .int .u64 key) hkt (by simp [MapKept.IsKey]) false 9999
  refine ⟨{ w with heap := w.heap.setIfInBounds B (.map (((es.zip bs).map fun x => ({ key := .int .u64 x.1.1, val := x.1.2, born := x.2 } : MapEntry)).toArray.push { key := .int .u64 key, val, born := es.length }) (es.length + 1)) }, ?_, ?_, ?_⟩
  · simp only [Instr.mapUpdate, Sem.run_bind, run_underlying hT, Result.andThen_ok, MapKept.run_getObj_map hb, hc]
    rw [MapKept.run_findKey hkt h1]
    simp only [Result.andThen_ok]
    exact MapKept.run_setObj_map _ hb
  · refine ⟨bs ++ [es.length], by simp [hl], ?_⟩
    have := (MapKept.heap_set (o' := .map (((es.zip bs).map fun x => ({ key := .int .u64 x.1.1, val := x.1.2, born := x.2 } : MapEntry)).toArray.push { key := .int .u64 key, val, born := es.length }) (es.length + 1)) hb).1
    rw [this]
    simp [List.zip_append hl.symm]
  · refine ⟨rfl, rfl, rfl, by simp, fun k _ hk => (MapKept.heap_set hb).2 k hk⟩
end
end Go.Proofs.YtefpabicgefciaaGreat
