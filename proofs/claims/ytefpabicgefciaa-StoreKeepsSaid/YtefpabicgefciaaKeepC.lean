/- The revisions of a store: Latest, Publish, Revision; revisions compared. -/
import Derived.Test.YtefpabicgefciaaKeepB
namespace Go.Proofs.Ytefpabicgefciaa
open Go.RowKit
set_option linter.unusedVariables false
set_option linter.unusedSimpArgs false
set_option linter.unusedSectionVars false

set_option maxRecDepth 100000 in
set_option maxHeartbeats 1000000 in
theorem eqRev_any (x : Rv) (am ad am' ad' : Option Addr) (n1 c1 n2 c2 c3 c4 : Nat) (ms : List Mk) (ds : List Pc) (w : World) (hm : InMk w am n1 ms) (hd : InPc w ad n2 ds) (hm' : InMk w am' n1 ms) (hd' : InPc w ad' n2 ds) (h1 : n1 < 1000) (h2 : n2 < 1000) :
    Calls Try.prog 9 #[.agg #[.int .i64 x.num, .int .u64 x.at', .int .i64 x.h, .int .i64 x.b, .int .i64 x.r, .int .i64 x.l, .slice am n1 c1, .slice ad n2 c2], .agg #[.int .i64 x.num, .int .u64 x.at', .int .i64 x.h, .int .i64 x.b, .int .i64 x.r, .int .i64 x.l, .slice am' n1 c3, .slice ad' n2 c4]] w fun e w' => e = .returned (.bool true) ∧ Ch (fun _ => False) w w' := by
  have e1 : (x.num == x.num) = true := by simp
  go_enter Try.func9, Try.ntmps9
  go_wp2_with fail
  refine calls_world fun Wa hWa => ?_
  have cWa : Ch (fun _ => False) w Wa := by rw [hWa]; exact ((Ch.refl (fun _ => False) w).alloc _).alloc _
  have p1 : Blk Wa w.heap.size 38 #[.int .i64 x.num, .int .u64 x.at', .int .i64 x.h, .int .i64 x.b, .int .i64 x.r, .int .i64 x.l, .slice am n1 c1, .slice ad n2 c2] := by rw [hWa]; exact (Blk.new w _ _).alloc _
  have p2 : Blk Wa (w.heap.size + 1) 38 #[.int .i64 x.num, .int .u64 x.at', .int .i64 x.h, .int .i64 x.b, .int .i64 x.r, .int .i64 x.l, .slice am' n1 c3, .slice ad' n2 c4] := by
    rw [hWa]
    have := Blk.new (w.alloc (.cells #[.int .i64 x.num, .int .u64 x.at', .int .i64 x.h, .int .i64 x.b, .int .i64 x.r, .int .i64 x.l, .slice am n1 c1, .slice ad n2 c2] 38)) 38 #[.int .i64 x.num, .int .u64 x.at', .int .i64 x.h, .int .i64 x.b, .int .i64 x.r, .int .i64 x.l, .slice am' n1 c3, .slice ad' n2 c4]
    simpa using this
  have c7 : Wa.cell? ⟨w.heap.size, 7, none⟩ = some (.slice ad n2 c2) := p1.cell 7
  have d7 : Wa.cell? ⟨w.heap.size + 1, 7, none⟩ = some (.slice ad' n2 c4) := p2.cell 7
  have HC := hid cWa
  clear hWa p1 p2 cWa
  refine (eqMarks_any am am' n1 c1 c3 ms Wa (hm.keep HC.out (fun _ _ _ _ => id)) (hm'.keep HC.out (fun _ _ _ _ => id)) (by omega)).mono ?_
  rintro e Wb ⟨rfl, k1, rfl⟩
  go_wp2_with fail
  refine (eqPieces_any ad ad' n2 c2 c4 ds (Wa.drewN k1) (hd.keep (HC.out.drewN k1) (fun _ _ _ _ => id)) (hd'.keep (HC.out.drewN k1) (fun _ _ _ _ => id)) (by omega)).mono ?_
  rintro e Wb ⟨rfl, k2, rfl⟩
  go_wp2_with fail
  go_ret
  exact ⟨rfl, HC.out.drewN _⟩
theorem latest_any (sb n c : Nat) (A : Option Addr) (w : World) (h : w.cell? ⟨sb, 23, none⟩ = some (.slice A (n + 1) c)) (hn : n < 1000) : Calls Try.prog 10 #[.pointer (some ⟨sb, 0, none⟩)] w fun e w' => e = .returned (.int .i64 n) ∧ w = w' := by
  go_enter Try.func10, Try.ntmps10
  go_wp2_with fail
  go_ret
  exact ⟨rfl, rfl⟩
theorem latest_q (sb n c : Nat) (A : Option Addr) (w : World) (h : w.cell? ⟨sb, 23, none⟩ = some (.slice A (n + 1) c)) (hn : n < 1000) (k : Nat) : Calls Try.prog 10 #[.pointer (some ⟨sb, 0, none⟩)] (w.drewN k) fun e w'' => e = .returned (.int .i64 n) ∧ ∃ m, w'' = w.drewN m :=
  Calls.quiet_of_same ((latest_any sb n c A (w.drewN k) h hn).mono fun e w' ⟨he, hw⟩ => ⟨he, hw.symm⟩)
/-- What Publish leaves. -/
def PubRes (B sb : Nat) (cs : Array Value) (rv : Value) (n : Nat) (xs : List Value) (x : Rv) (ms : List Mk) (ds : List Pc) (w : World) (e : Ending) (w' : World) : Prop :=
  e = .returned (.tuple #[.int .i64 n, .int .i64 0]) ∧ ∃ mv dv rv', Blk w' sb 71 (cs.setIfInBounds 23 rv') ∧ w'.ownsRow B 38 8 rv' (n + 1) (xs ++ rvCells x mv dv) ∧ w'.ownsRow w.heap.size 45 3 mv ms.length (mkCells ms) ∧ w'.ownsRow w.heap.size 47 3 dv ds.length (pcCells ds) ∧
    Ch (fun k => k = sb ∨ rv.ownBlock = some k) w w' ∧ Fresh w rv rv'
set_option maxRecDepth 100000 in
set_option maxHeartbeats 1000000 in
theorem publish_any (B sb : Nat) (cs : Array Value) (A : Option Addr) (cap n : Nat) (xs : List Value) (last : Int) (x : Rv) (am ad : Option Addr) (n1 c1 n2 c2 : Nat) (ms : List Mk) (ds : List Pc) (w : World)
    (hS : Blk w sb 71 cs) (h23 : cs[23]? = some (.slice A (n + 1) cap)) (hown : w.ownsRow B 38 8 (.slice A (n + 1) cap) (n + 1) xs) (hlast : xs[n * 8]? = some (.int .i64 last)) (hx : last < x.num) (hn : n < 900) (hB : B ≤ w.heap.size)
    (hm : InMk w am n1 ms) (hd : InPc w ad n2 ds) (zm : am = none → c1 = 0) (zd : ad = none → c2 = 0) (h1 : n1 < 1000) (h2 : n2 < 1000) :
    Calls Try.prog 7 #[.pointer (some ⟨sb, 0, none⟩), .agg #[.int .i64 x.num, .int .u64 x.at', .int .i64 x.h, .int .i64 x.b, .int .i64 x.r, .int .i64 x.l, .slice am n1 c1, .slice ad n2 c2]] w (PubRes B sb cs (.slice A (n + 1) cap) (n + 1) xs x ms ds w) := by
  obtain ⟨g, cap', hv, hcap, hcm, hBg, hgl⟩ := own_form hown (by omega)
  injection hv with hA _ hc'
  subst hA hc'
  have k23 : w.cell? ⟨sb, 23, none⟩ = some (.slice (some ⟨g, 0, none⟩) (n + 1) cap) := (hS.cell 23).trans h23
  have kl : w.cell? ⟨g, n * 8, none⟩ = some (.int .i64 last) := by
    have := hown.cells (g := g) rfl (n * 8) _ hlast
    rw [addr_add0] at this
    exact this
  have dl : decide (x.num ≤ last) = false := decide_eq_false (by omega)
  have hsl := hS.lt
  have dn : decide (n < n + 1) = true := decide_eq_true (by omega)
  have dn' : decide ((n : Int) < ((n + 1 : Nat) : Int)) = true := decide_eq_true (by omega)
  have H := hid hown
  have HS := hid hS
  have HM := hid hm
  have HD := hid hd
  have HL := hid hlast
  have H23 := hid h23
  clear hown hS hm hd hlast h23
  go_enter Try.func7, Try.ntmps7
  go_wp2_with fail
  refine at_world fun W1 hW1 => ?_
  have cW : Ch (fun _ => False) w W1 := by rw [hW1]; exact (Ch.refl _ w).alloc _
  have bB : Blk W1 w.heap.size 38 #[.int .i64 x.num, .int .u64 x.at', .int .i64 x.h, .int .i64 x.b, .int .i64 x.r, .int .i64 x.l, .slice am n1 c1, .slice ad n2 c2] := by rw [hW1]; exact Blk.new w _ _
  have HW := hid cW
  have HB := hid bB
  clear hW1 cW bB k23 kl
  have k23 : W1.cell? ⟨sb, 23, none⟩ = some (.slice (some ⟨g, 0, none⟩) (n + 1) cap) := (HW.out.blk HS.out id).cell 23 |>.trans H23.out
  have kl : W1.cell? ⟨g, n * 8, none⟩ = some (.int .i64 last) := by
    have := (HW.out.own H.out (fun _ _ => id)).cells (g := g) rfl (n * 8) _ HL.out
    rw [addr_add0] at this
    exact this
  have k0 : W1.cell? ⟨w.heap.size, 0, none⟩ = some (.int .i64 x.num) := HB.out.cell 0
  go_quiet ((go_at_call 10; exact latest_q sb n cap (some ⟨g, 0, none⟩) W1 k23 (by omega) _))
  go_wp2_with fail
  obtain ⟨i0, hi, hz0, hz1, hz2⟩ := info_parts (show (Try.prog.info? 38).map (fun i => (i.zero, i.size, i.bytes)) = some (some (Value.agg #[.int .i64 0, .int .u64 0, .int .i64 0, .int .i64 0, .int .i64 0, .int .i64 0, .slice none 0 0, .slice none 0 0]), 8, 96) by kernel_rfl)
  obtain ⟨S, hS⟩ : ∃ S : Nat → Prop, ∀ k, S k ↔ k = sb := ⟨_, fun _ => Iff.rfl⟩
  have hSp : Mix.Has S sb := (hS _).2 rfl
  have HSS := hid hS
  clear hS
  refine Mix.wp_region_mix S (fun i => ([1, 1, 1, 1, 4, 0, 3, 3, 2, 0, 0, 2] : List Nat).getD i 0) [0, 1, 2, 3, 4, 5, 6, 7, 8, 9, 10, 11] (by kernel_rfl) (by kernel_rfl) ?_
  refine Mix.mix_world fun W2 hW2 => ?_
  have cW2 : Ch (fun _ => False) w W2 := by rw [hW2]; first | exact HW.out | exact HW.out.drewN _
  have bB2 : Blk W2 w.heap.size 38 #[.int .i64 x.num, .int .u64 x.at', .int .i64 x.h, .int .i64 x.b, .int .i64 x.r, .int .i64 x.l, .slice am n1 c1, .slice ad n2 c2] := by rw [hW2]; first | exact HB.out | exact HB.out.drewN _
  have HW2 := hid cW2
  clear hW2 k23 kl k0
  have k23 : W2.cell? ⟨sb, 23, none⟩ = some (.slice (some ⟨g, 0, none⟩) (n + 1) cap) := (HW2.out.blk HS.out id).cell 23 |>.trans H23.out
  have b0 : W2.cell? ⟨w.heap.size, 0, none⟩ = some (.int .i64 x.num) := bB2.cell 0
  have b1 : W2.cell? ⟨w.heap.size, 1, none⟩ = some (.int .u64 x.at') := bB2.cell 1
  have b2 : W2.cell? ⟨w.heap.size, 2, none⟩ = some (.int .i64 x.h) := bB2.cell 2
  have b3 : W2.cell? ⟨w.heap.size, 3, none⟩ = some (.int .i64 x.b) := bB2.cell 3
  have b4 : W2.cell? ⟨w.heap.size, 4, none⟩ = some (.int .i64 x.r) := bB2.cell 4
  have b5 : W2.cell? ⟨w.heap.size, 5, none⟩ = some (.int .i64 x.l) := bB2.cell 5
  have b6 : W2.cell? ⟨w.heap.size, 6, none⟩ = some (.slice am n1 c1) := bB2.cell 6
  have b7 : W2.cell? ⟨w.heap.size, 7, none⟩ = some (.slice ad n2 c2) := bB2.cell 7
  clear bB2 cW2
  repeat (first | (refine Mix.mix_q (by simp only [List.getElem?_toArray, List.getElem?_cons_zero, List.getElem?_cons_succ]; exact rfl) rfl ?_; go_big_quiet_step (fail); refine wpQuiet_nil ?_) | (refine Mix.mix_p (by simp only [List.getElem?_toArray, List.getElem?_cons_zero, List.getElem?_cons_succ]; exact rfl) rfl rfl ?_; go_big_quiet_step (fail); refine wpQuiet_nil ?_) | (refine Mix.mix_s (by simp only [List.getElem?_toArray, List.getElem?_cons_zero, List.getElem?_cons_succ]; exact rfl) rfl rfl ?_; go_big_quiet_step (fail); refine wpQuiet_nil ?_))
  refine Mix.mix_a (by simp only [List.getElem?_toArray, List.getElem?_cons_zero, List.getElem?_cons_succ]; exact rfl) rfl fun W3 hW3 => ?_
  obtain ⟨k1, rfl⟩ := hW3
  go_wp2_with fail
  refine (copied_any x am ad n1 c1 n2 c2 ms ds (W2.drewN k1) (HM.out.keep (HW2.out.drewN k1) (fun _ _ _ _ => id)) (HD.out.keep (HW2.out.drewN k1) (fun _ _ _ _ => id)) zm zd h1 h2).mono ?_
  rintro e w4 ⟨mv, dv, rfl, ho1, ho2, hc⟩
  obtain ⟨ma, mc, hmv, _⟩ := own_slice ho1
  obtain ⟨da, dc, hdv, _⟩ := own_slice ho2
  subst hmv hdv
  have c4 : Ch (fun _ => False) W2 w4 := hc.ofDrewN
  have hkeep : Mix.Keep S W2 w4 := fun k hk => by rw [(HSS.out k).1 hk]; exact c4.block _ (HW2.out.blk HS.out id).lt id
  have HO1 := hid (own_mono ho1 (show w.heap.size ≤ (W2.drewN k1).heap.size from HW2.out.size))
  have HO2 := hid (own_mono ho2 (show w.heap.size ≤ (W2.drewN k1).heap.size from HW2.out.size))
  have HC4 := hid (HW2.out.trans c4 (fun _ _ h => h))
  clear ho1 ho2 hc c4 k23 b0 b1 b2 b3 b4 b5 b6 b7
  simp only [rvA]
  go_wp2_with fail
  refine ⟨hkeep, ?_⟩
  clear hkeep
  repeat (first | (refine Mix.mix_q (by simp only [List.getElem?_toArray, List.getElem?_cons_zero, List.getElem?_cons_succ]; exact rfl) rfl ?_; go_big_quiet_step (fail); refine wpQuiet_nil ?_) | (refine Mix.mix_p (by simp only [List.getElem?_toArray, List.getElem?_cons_zero, List.getElem?_cons_succ]; exact rfl) rfl rfl ?_; go_big_quiet_step (fail); refine wpQuiet_nil ?_) | (refine Mix.mix_s (by simp only [List.getElem?_toArray, List.getElem?_cons_zero, List.getElem?_cons_succ]; exact rfl) rfl rfl ?_; go_big_quiet_step (fail); refine wpQuiet_nil ?_))
  refine Mix.mix_a (by simp only [List.getElem?_toArray, List.getElem?_cons_zero, List.getElem?_cons_succ]; exact rfl) rfl fun W5 hW5 => ?_
  obtain ⟨k2, rfl⟩ := hW5
  go_wp2_with fail
  refine ⟨fun k hk => Below.heap_alloc _ _ k (by rw [(HSS.out k).1 hk]; exact (HC4.out.blk HS.out id).lt), Mix.mix_world fun W6 hW6 => ?_⟩
  have c6 : Ch (fun _ => False) w4 W6 := by rw [hW6]; first | exact Ch.push rfl rfl rfl rfl | exact ((Ch.refl _ w4).drewN k2).alloc _
  have n6 : Blk W6 w4.heap.size 38 #[.int .i64 x.num, .int .u64 x.at', .int .i64 x.h, .int .i64 x.b, .int .i64 x.r, .int .i64 x.l, .slice ma n1 mc, .slice da n2 dc] := by rw [hW6]; first | exact Blk.push rfl | exact Blk.new (w4.drewN k2) _ _
  have HC6 := hid (HC4.out.trans c6 (fun _ _ h => h))
  have HO1b := hid (c6.own HO1.out (fun _ _ => id))
  have HO2b := hid (c6.own HO2.out (fun _ _ => id))
  have HN6 := hid n6
  clear hW6 c6 n6
  repeat (first | (refine Mix.mix_q (by simp only [List.getElem?_toArray, List.getElem?_cons_zero, List.getElem?_cons_succ]; exact rfl) rfl ?_; go_big_quiet_step (fail); refine wpQuiet_nil ?_) | (refine Mix.mix_p (by simp only [List.getElem?_toArray, List.getElem?_cons_zero, List.getElem?_cons_succ]; exact rfl) rfl rfl ?_; go_big_quiet_step (fail); refine wpQuiet_nil ?_) | (refine Mix.mix_s (by simp only [List.getElem?_toArray, List.getElem?_cons_zero, List.getElem?_cons_succ]; exact rfl) rfl rfl ?_; go_big_quiet_step (fail); refine wpQuiet_nil ?_))
  refine Mix.mix_e (by simp only [List.getElem?_toArray, List.getElem?_cons_zero, List.getElem?_cons_succ]; exact rfl) rfl fun W7 hW7 => ?_
  obtain ⟨k3, rfl⟩ := hW7
  refine wpList_app _ rfl (.tmp 24) (.tmp 27) 22 rfl B 38 i0 _ 8 96 Try.underlying22 hi hz0 hz1 hz2 rfl (by decide) _ _ _ rfl ((HC6.out.drewN k3).own H.out (fun _ _ => id)) ⟨w4.heap.size, 0, none⟩ 1 1 (rvCells x (.slice ma n1 mc) (.slice da n2 dc)) rfl rfl ?c1 ?c2 (by decide) ?c3 ?c4 ?c5 ?_
  case c1 => intro j u hu; rw [addr_add0]; exact ((HN6.out.drewN k3).cell j).trans (by simpa [rvCells] using hu)
  case c2 =>
    intro u hu
    simp only [rvCells, List.mem_cons, List.not_mem_nil, or_false] at hu
    rcases hu with rfl | rfl | rfl | rfl | rfl | rfl | rfl | rfl <;> rfl
  case c3 => unfold maxLen; omega
  case c4 => omega
  case c5 => exact Nat.le_trans hB HC6.out.size
  intro v' w' hown' hgrow hfresh
  obtain ⟨A', cap', hv', _⟩ := own_slice hown'
  subst hv'
  have hsg : (Value.slice (some ⟨g, 0, none⟩) (n + 1) cap).ownBlock ≠ some sb := HS.out.own H.out (by decide)
  have hO1g : ∀ k, (Value.slice ma n1 mc).ownBlock = some k → (Value.slice (some ⟨g, 0, none⟩) (n + 1) cap).ownBlock ≠ some k := fun k hk e => by
    have h1 := (HO1b.out.lt k hk).1
    have h2 := (H.out.lt k e).2
    omega
  have hO2g : ∀ k, (Value.slice da n2 dc).ownBlock = some k → (Value.slice (some ⟨g, 0, none⟩) (n + 1) cap).ownBlock ≠ some k := fun k hk e => by
    have h1 := (HO2b.out.lt k hk).1
    have h2 := (H.out.lt k e).2
    omega
  have HS' := hid (((HC6.out.drewN k3).blk HS.out id).grown hgrow hsg)
  have HO1' := hid (own_grown ((Ch.refl (fun _ => False) W6).drewN k3 |>.own HO1b.out (fun _ _ => id)) hgrow (fun k hk => hO1g k hk))
  have HO2' := hid (own_grown ((Ch.refl (fun _ => False) W6).drewN k3 |>.own HO2b.out (fun _ _ => id)) hgrow (fun k hk => hO2g k hk))
  have HCw := hid (((HC6.out.mono (fp' := fun k => k = sb ∨ (Value.slice (some ⟨g, 0, none⟩) (n + 1) cap).ownBlock = some k) (fun _ _ h => h.elim)).drewN k3).grown hgrow (fun k hk _ => .inr hk))
  have HOw := hid hown'
  have HF := hid (show Fresh w (.slice (some ⟨g, 0, none⟩) (n + 1) cap) (.slice A' (n + 1 + 1) cap') from hfresh.imp id (fun h k hk => Nat.le_trans HC6.out.size (h k hk)))
  have k23 : w'.cell? ⟨sb, 23, none⟩ = some (.slice (some ⟨g, 0, none⟩) (n + 1) cap) := HS'.out.cell 23 |>.trans H23.out
  have f23 := HS'.out.free 23
  clear hown' hgrow hfresh hO1g hO2g hsg
  go_wp2_with fail
  repeat (first | (refine Mix.mix_q (by simp only [List.getElem?_toArray, List.getElem?_cons_zero, List.getElem?_cons_succ]; exact rfl) rfl ?_; go_big_quiet_step (fail); refine wpQuiet_nil ?_) | (refine Mix.mix_p (by simp only [List.getElem?_toArray, List.getElem?_cons_zero, List.getElem?_cons_succ]; exact rfl) rfl rfl ?_; go_big_quiet_step (fail); refine wpQuiet_nil ?_) | (refine Mix.mix_s (by simp only [List.getElem?_toArray, List.getElem?_cons_zero, List.getElem?_cons_succ]; exact rfl) rfl rfl ?_; go_big_quiet_step (fail); refine wpQuiet_nil ?_))
  refine Mix.mix_e (by simp only [List.getElem?_toArray, List.getElem?_cons_zero, List.getElem?_cons_succ]; exact rfl) rfl fun W8 hW8 => ?_
  obtain ⟨k4, rfl⟩ := hW8
  go_wp2_with fail
  intro k5
  go_wp2_with fail
  refine calls_world fun W9 hW9 => ?_
  have B9 : Blk W9 sb 71 (cs.setIfInBounds 23 (.slice A' (n + 1 + 1) cap')) := by rw [hW9]; exact ((HS'.out.drewN k4).put 23 _).drewN k5
  have c9 : Ch (fun k => k = sb) w' W9 := by rw [hW9]; exact (((Ch.refl (fun k => k = sb) w').drewN k4).set (fun _ => rfl) _).drewN k5
  have q9 : W9.cell? ⟨sb, 23, none⟩ = some (.slice A' (n + 1 + 1) cap') := (B9.cell 23).trans (by
    have := (Array.getElem?_eq_some_iff.1 H23.out).1
    simp [Array.getElem?_setIfInBounds, this])
  have o0 := HS'.out.own HOw.out (by decide)
  have o1 := HS'.out.own HO1'.out (by decide)
  have o2 := HS'.out.own HO2'.out (by decide)
  have P9 := hid (show PubRes B sb cs (.slice (some ⟨g, 0, none⟩) (n + 1) cap) (n + 1) xs x ms ds w (.returned (.tuple #[.int .i64 (n + 1 : Nat), .int .i64 0])) W9 from
    ⟨rfl, _, _, _, B9, c9.own HOw.out (fun k hk e => o0 (by rw [hk, e])), by rw [HM.out.1]; exact c9.own HO1'.out (fun k hk e => o1 (by rw [hk, e])), by rw [HD.out.1]; exact c9.own HO2'.out (fun k hk e => o2 (by rw [hk, e])), HCw.out.trans c9 (fun _ _ e => .inl e), HF.out⟩)
  clear hW9 B9 c9 o0 o1 o2 k23 f23
  refine (latest_any sb (n + 1) cap' A' W9 q9 (by omega)).mono ?_
  rintro e _ ⟨rfl, rfl⟩
  go_wp2_with fail
  go_ret2
  exact P9.out
set_option maxRecDepth 100000 in
set_option maxHeartbeats 1000000 in
theorem revision_any (B sb : Nat) (cs : Array Value) (A : Option Addr) (cap N p : Nat) (xs : List Value) (x : Rv) (am ad : Option Addr) (n1 c1 n2 c2 : Nat) (ms : List Mk) (ds : List Pc) (w : World)
    (hS : Blk w sb 71 cs) (h23 : cs[23]? = some (.slice A N cap)) (hown : w.ownsRow B 38 8 (.slice A N cap) N xs) (hp : p < N) (hN : N < 1000) (hx : ∀ (j : Nat) (v : Value), (rvCells x (.slice am n1 c1) (.slice ad n2 c2))[j]? = some v → xs[p * 8 + j]? = some v)
    (hm : InMk w am n1 ms) (hd : InPc w ad n2 ds) (zm : am = none → c1 = 0) (zd : ad = none → c2 = 0) (h1 : n1 < 1000) (h2 : n2 < 1000) :
    Calls Try.prog 8 #[.pointer (some ⟨sb, 0, none⟩), .int .i64 p] w fun e w' => ∃ mv dv, e = .returned (.tuple #[.agg (rvA x mv dv), .int .i64 0]) ∧ w'.ownsRow w.heap.size 45 3 mv n1 (mkCells ms) ∧ w'.ownsRow w.heap.size 47 3 dv n2 (pcCells ds) ∧ Ch (fun _ => False) w w' := by
  obtain ⟨g, cap', hv, hcap, hcm, hBg, hgl⟩ := own_form hown (by omega)
  injection hv with hA _ hc'
  subst hA hc'
  have d1 : decide ((p : Int) < 0) = false := decide_eq_false (by omega)
  have d2 : decide (N ≤ p) = false := decide_eq_false (by omega)
  have d2' : decide ((N : Int) ≤ (p : Int)) = false := decide_eq_false (by omega)
  have d3 : decide (p < N) = true := decide_eq_true hp
  have d3' : decide ((p : Int) < (N : Int)) = true := decide_eq_true (by omega)
  have kc : ∀ (j : Nat) (v : Value), (rvCells x (.slice am n1 c1) (.slice ad n2 c2))[j]? = some v → w.cell? ⟨g, p * 8 + j, none⟩ = some v := fun j v hj => by
    have := hown.cells (g := g) rfl (p * 8 + j) v (hx j v hj)
    rw [addr_add0] at this
    exact this
  have HS := hid hS
  have H := hid hown
  have HM := hid hm
  have HD := hid hd
  have HK := hid kc
  have H23 := hid h23
  have hsl := hS.lt
  have k23 : w.cell? ⟨sb, 23, none⟩ = some (.slice (some ⟨g, 0, none⟩) N cap) := (hS.cell 23).trans h23
  have b0 : w.cell? ⟨g, p * 8, none⟩ = some (.int .i64 x.num) := kc 0 _ rfl
  have b1 : w.cell? ⟨g, p * 8 + 1, none⟩ = some (.int .u64 x.at') := kc 1 _ rfl
  have b2 : w.cell? ⟨g, p * 8 + 2, none⟩ = some (.int .i64 x.h) := kc 2 _ rfl
  have b3 : w.cell? ⟨g, p * 8 + 3, none⟩ = some (.int .i64 x.b) := kc 3 _ rfl
  have b4 : w.cell? ⟨g, p * 8 + 4, none⟩ = some (.int .i64 x.r) := kc 4 _ rfl
  have b5 : w.cell? ⟨g, p * 8 + 5, none⟩ = some (.int .i64 x.l) := kc 5 _ rfl
  have b6 : w.cell? ⟨g, p * 8 + 6, none⟩ = some (.slice am n1 c1) := kc 6 _ rfl
  have b7 : w.cell? ⟨g, p * 8 + 7, none⟩ = some (.slice ad n2 c2) := kc 7 _ rfl
  clear hS hown hm hd kc h23 hx HK
  go_enter Try.func8, Try.ntmps8
  go_wp2_with fail
  refine calls_world fun W1 hW1 => ?_
  have cW : Ch (fun _ => False) w W1 := by rw [hW1]; exact (Ch.refl _ w).alloc _
  have bR : Blk W1 w.heap.size 38 #[.int .i64 0, .int .u64 0, .int .i64 0, .int .i64 0, .int .i64 0, .int .i64 0, .slice none 0 0, .slice none 0 0] := by rw [hW1]; exact Blk.new w _ _
  have HW := hid cW
  have HB := hid bR
  clear hW1 cW bR k23 b0 b1 b2 b3 b4 b5 b6 b7
  refine (copied_any x am ad n1 c1 n2 c2 ms ds W1 (HM.out.keep HW.out (fun _ _ _ _ => id)) (HD.out.keep HW.out (fun _ _ _ _ => id)) zm zd h1 h2).mono ?_
  rintro e w4 ⟨mv, dv, rfl, ho1, ho2, hc⟩
  obtain ⟨ma, mc, hmv, _⟩ := own_slice ho1
  obtain ⟨da, dc, hdv, _⟩ := own_slice ho2
  subst hmv hdv
  have HO1 := hid (own_mono ho1 HW.out.size)
  have HO2 := hid (own_mono ho2 HW.out.size)
  have HC4 := hid (HW.out.trans hc (fun _ _ h => h))
  have R4 := hc.blk HB.out id
  have r0 : w4.cell? ⟨w.heap.size, 0, none⟩ = some (.int .i64 0) := R4.cell 0
  have r1 : w4.cell? ⟨w.heap.size, 1, none⟩ = some (.int .u64 0) := R4.cell 1
  have r2 : w4.cell? ⟨w.heap.size, 2, none⟩ = some (.int .i64 0) := R4.cell 2
  have r3 : w4.cell? ⟨w.heap.size, 3, none⟩ = some (.int .i64 0) := R4.cell 3
  have r4 : w4.cell? ⟨w.heap.size, 4, none⟩ = some (.int .i64 0) := R4.cell 4
  have r5 : w4.cell? ⟨w.heap.size, 5, none⟩ = some (.int .i64 0) := R4.cell 5
  have r6 : w4.cell? ⟨w.heap.size, 6, none⟩ = some (.slice none 0 0) := R4.cell 6
  have r7 : w4.cell? ⟨w.heap.size, 7, none⟩ = some (.slice none 0 0) := R4.cell 7
  have s0 := R4.free 0
  have s1 := R4.free 1
  have s2 := R4.free 2
  have s3 := R4.free 3
  have s4 := R4.free 4
  have s5 := R4.free 5
  have s6 := R4.free 6
  have s7 := R4.free 7
  clear ho1 ho2 hc
  simp only [rvA]
  go_wp2_with fail
  refine at_world fun W7 hW7 => ?_
  have R7 : Blk W7 w.heap.size 38 #[.int .i64 x.num, .int .u64 x.at', .int .i64 x.h, .int .i64 x.b, .int .i64 x.r, .int .i64 x.l, .slice ma n1 mc, .slice da n2 dc] := by
    rw [hW7]; exact (((((((R4.put 0 _).put 1 _).put 2 _).put 3 _).put 4 _).put 5 _).put 6 _).put 7 _
  have c7 : Ch (fun k => k = w.heap.size) w4 W7 := by
    rw [hW7]; exact ((((((((Ch.refl (fun k => k = w.heap.size) w4).set (fun _ => rfl) _).set (fun _ => rfl) _).set (fun _ => rfl) _).set (fun _ => rfl) _).set (fun _ => rfl) _).set (fun _ => rfl) _).set (fun _ => rfl) _).set (fun _ => rfl) _
  have o1 := R4.own HO1.out (by decide)
  have o2 := R4.own HO2.out (by decide)
  have t0 : W7.cell? ⟨w.heap.size, 0, none⟩ = some (.int .i64 x.num) := R7.cell 0
  have t1 : W7.cell? ⟨w.heap.size, 1, none⟩ = some (.int .u64 x.at') := R7.cell 1
  have t2 : W7.cell? ⟨w.heap.size, 2, none⟩ = some (.int .i64 x.h) := R7.cell 2
  have t3 : W7.cell? ⟨w.heap.size, 3, none⟩ = some (.int .i64 x.b) := R7.cell 3
  have t4 : W7.cell? ⟨w.heap.size, 4, none⟩ = some (.int .i64 x.r) := R7.cell 4
  have t5 : W7.cell? ⟨w.heap.size, 5, none⟩ = some (.int .i64 x.l) := R7.cell 5
  have t6 : W7.cell? ⟨w.heap.size, 6, none⟩ = some (.slice ma n1 mc) := R7.cell 6
  have t7 : W7.cell? ⟨w.heap.size, 7, none⟩ = some (.slice da n2 dc) := R7.cell 7
  refine bodyPost_ret (v := .tuple #[.agg (rvA x (.slice ma n1 mc) (.slice da n2 dc)), .int .i64 0]) ?_ rfl ⟨_, _, rfl, c7.own HO1.out (fun k hk e => o1 (by rw [hk, e])), c7.own HO2.out (fun k hk e => o2 (by rw [hk, e])), HC4.out.trans c7 (fun i hi e => absurd hi (by omega))⟩
  clear hW7 c7 o1 o2
  simp [results, Try.results8, go_sem, rvA, t0, t1, t2, t3, t4, t5, t6, t7]
end Go.Proofs.Ytefpabicgefciaa
