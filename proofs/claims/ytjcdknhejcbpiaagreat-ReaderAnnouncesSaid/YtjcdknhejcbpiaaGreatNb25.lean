/- Lemmas that the proof of the last text leans on; no condition. -/
import Derived.Test.YtjcdknhejcbpiaaGreatNb24
namespace Go.Proofs.YtjcdknhejcbpiaaGreat
open Go.RowKit
set_option linter.unusedVariables false
set_option linter.unusedSimpArgs false
set_option linter.unusedSectionVars false
set_option maxRecDepth 100000
theorem add1_any (b1 : Nat) (s : ByteArray) (w : World) (h : Blk w b1 229 #[.int .i64 0, .string s, .slice none 0 0]) : Calls Tryz.prog 161 #[.pointer (some ⟨b1, 0, none⟩)] w fun e w' => e = .returned (.agg #[.int .i64 0, .string s, .slice none 0 0]) ∧ Ch (fun _ => False) w w' := by
  have hne : b1 ≠ w.heap.size := Nat.ne_of_lt h.lt
  have hlt := h.lt
  have c0 : w.cell? ⟨b1, 0, none⟩ = some (.int .i64 0) := h.cell 0
  have c1 : w.cell? ⟨b1, 1, none⟩ = some (.string s) := h.cell 1
  have c2 : w.cell? ⟨b1, 2, none⟩ = some (.slice none 0 0) := h.cell 2
  go_enter Tryz.func161, Tryz.ntmps161
  go_wp2_with fail
  refine at_world fun W hW => ?_
  have C := hid (show Ch (fun _ => False) w W from by rw [hW]; exact (Ch.refl _ w).alloc _)
  have B := hid (show Blk W w.heap.size 229 #[.int .i64 0, .string s, .slice none 0 0] from by rw [hW]; exact Blk.new w _ _)
  have t0 : W.cell? ⟨w.heap.size, 0, none⟩ = some (.int .i64 0) := B.out.cell 0
  have t1 : W.cell? ⟨w.heap.size, 1, none⟩ = some (.string s) := B.out.cell 1
  have t2 : W.cell? ⟨w.heap.size, 2, none⟩ = some (.slice none 0 0) := B.out.cell 2
  refine bodyPost_ret (v := .agg #[.int .i64 0, .string s, .slice none 0 0]) (by simp [results, Tryz.results161, go_sem, t0, t1, t2]) rfl ⟨rfl, C.out⟩
set_option maxHeartbeats 4000000 in
theorem add2_any (tb kb sb c h N : Nat) (tc scs : Array Value) (kids : List Kd) (w : World) (hN : N = kids.length) (hn4 : N ≤ 4) (ht : Blk w tb 183 tc) (htc : tc[1]? = some (.int .i64 (h : Int))) (hk : Blk w kb 293 #[.slice (some ⟨sb, 0, none⟩) N c]) (hs : Blk w sb 246 scs)
    (hkd : ∀ (i : Nat) (x : Kd), kids[i]? = some x → ∃ (r : Nat) (hh : Int), scs[i]? = some (.pointer (some ⟨r, 0, none⟩)) ∧ Blk w r 102 #[.int .u64 (hdl x.at'), .int .i64 hh, .int .i64 x.m.b, .int .i64 x.m.r, .int .i64 x.m.l]) :
    Calls Tryz.prog 162 #[.pointer (some ⟨tb, 0, none⟩), .pointer (some ⟨kb, 0, none⟩)] w fun e w' => ∃ a c', e = .returned (.agg #[.int .i64 (h : Int), .string ⟨#[]⟩, .slice a N c']) ∧ w'.ownsRow w.heap.size 266 4 (.slice a N c') N (kids.flatMap Kd.cells) ∧ Ch (fun _ => False) w w' := by
  obtain ⟨i0, hi, hz0, hz1, hz2⟩ := info_parts infoKd
  have HT := hid ht
  have HK := hid hk
  have HS := hid hs
  have HKD := hid hkd
  have HN := hid hN
  have a0 : w.cell? ⟨tb, 1, none⟩ = some (.int .i64 (h : Int)) := (ht.cell 1).trans htc
  have a1 : w.cell? ⟨kb, 0, none⟩ = some (.slice (some ⟨sb, 0, none⟩) N c) := hk.cell 0
  have htl := ht.lt
  have hkl := hk.lt
  clear ht hk hs hkd hN htc
  go_enter Tryz.func162, Tryz.ntmps162
  go_wp2_with fail
  refine at_world fun W1 hW1 => ?_
  obtain ⟨b0, hb0⟩ : ∃ x, x = w.heap.size := ⟨_, rfl⟩
  rw [← hb0]
  have C1 := hid (show Ch (fun _ => False) w W1 from by rw [hW1]; exact ((Ch.refl _ w).alloc _).alloc _)
  have R1 := hid (show Blk W1 b0 229 #[.int .i64 0, .string ⟨#[]⟩, .slice none 0 0] from by rw [hW1, hb0]; exact (Blk.new w _ _).alloc _)
  have X1 := hid (show Blk W1 (b0 + 1) 229 #[.int .i64 (h : Int), .string ⟨#[]⟩, .slice none 0 0] from by
    rw [hW1, hb0]
    have t := Blk.new (w.alloc (.cells #[.int .i64 0, .string ⟨#[]⟩, .slice none 0 0] 229)) 229 #[.int .i64 (h : Int), .string ⟨#[]⟩, .slice none 0 0]
    simpa using t)
  clear hW1 a0 a1
  have HZ := hid hb0
  clear hb0 htl hkl
  go_loopw [11] (fun i W => ∃ (k : Nat) (v : Value), k ≤ N ∧ i = .int .i64 (k : Int) ∧ Blk W b0 229 #[.int .i64 0, .string ⟨#[]⟩, .slice none 0 0] ∧ Blk W (b0 + 1) 229 #[.int .i64 (h : Int), .string ⟨#[]⟩, v] ∧ W.ownsRow b0 266 4 v k ((kids.take k).flatMap Kd.cells) ∧ Ch (fun _ => False) w W) (fun i _ => N - (intOf i).toNat)
  case atStart => exact ⟨0, .slice none 0 0, Nat.zero_le _, rfl, R1.out, X1.out, World.ownsRow_nil _ _ _ _, C1.out⟩
  case round =>
    clear C1 R1 X1
    obtain ⟨k, v, hk, rfl, hR, hX, hO, hC⟩ := hrel
    obtain ⟨A0, c0, rfl, _⟩ := own_slice hO
    have RR := hid hR
    have XX := hid hX
    have OO := hid hO
    have CC := hid hC
    clear hR hX hO hC
    by_cases hlt : k < N
    · obtain ⟨x, hx⟩ : ∃ x, kids[k]? = some x := ⟨_, List.getElem?_eq_getElem (by rw [← HN.out]; exact hlt)⟩
      obtain ⟨r, hh, hsc, hrb⟩ := HKD.out k x hx
      have HX := hid hx
      have HRB := hid (CC.out.blk hrb id)
      have hrl := hrb.lt
      have hzz := HZ.out
      have hrne : r < b0 := by omega
      clear hx hrb hrl hzz
      have q0 : wr.cell? ⟨sb, k, none⟩ = some (.pointer (some ⟨r, 0, none⟩)) := ((CC.out.blk HS.out id).cell k).trans hsc
      have y1 : decide (k < N) = true := decide_eq_true hlt
      have y2 : decide ((k : Int) < (N : Int)) = true := decide_eq_true (by omega)
      clear hsc
      go_wp2_with fail
      obtain ⟨SS, hSS⟩ : ∃ S : Nat → Prop, ∀ j, S j ↔ j = b0 + 1 := ⟨_, fun _ => Iff.rfl⟩
      have hS1 : Mix.Has SS (b0 + 1) := (hSS _).2 rfl
      have HSS := hid hSS
      clear hSS
      have r0 : wr.cell? ⟨r, 0, none⟩ = some (.int .u64 (hdl x.at')) := HRB.out.cell 0
      have r2 : wr.cell? ⟨r, 2, none⟩ = some (.int .i64 x.m.b) := HRB.out.cell 2
      have r3 : wr.cell? ⟨r, 3, none⟩ = some (.int .i64 x.m.r) := HRB.out.cell 3
      have r4 : wr.cell? ⟨r, 4, none⟩ = some (.int .i64 x.m.l) := HRB.out.cell 4
      have x2 : wr.cell? ⟨b0 + 1, 2, none⟩ = some (.slice A0 k c0) := XX.out.cell 2
      refine Mix.wp_region_mix SS (fun i => ([1, 4, 0, 0, 0, 0, 0, 0, 0, 0, 0, 3, 2, 0, 2] : List Nat).getD i 0) [0, 1, 2, 3, 4, 5, 6, 7, 8, 9, 10, 11, 12, 13, 14] (by kernel_rfl) (by kernel_rfl) ?_
      repeat (first | (refine Mix.mix_q (by simp only [List.getElem?_toArray, List.getElem?_cons_zero, List.getElem?_cons_succ]; exact rfl) rfl ?_; go_big_quiet_step (fail); refine wpQuiet_nil ?_) | (refine Mix.mix_p (by simp only [List.getElem?_toArray, List.getElem?_cons_zero, List.getElem?_cons_succ]; exact rfl) rfl rfl ?_; go_big_quiet_step (fail); refine wpQuiet_nil ?_) | (refine Mix.mix_s (by simp only [List.getElem?_toArray, List.getElem?_cons_zero, List.getElem?_cons_succ]; exact rfl) rfl rfl ?_; go_big_quiet_step (fail); refine wpQuiet_nil ?_))
      refine Mix.mix_a (by simp only [List.getElem?_toArray, List.getElem?_cons_zero, List.getElem?_cons_succ]; exact rfl) rfl fun W2 hW2 => ?_
      obtain ⟨y2, rfl⟩ := hW2
      go_wp2_with fail
      refine ⟨fun j hj => (((Ch.refl (fun _ => False) wr).drewN y2).alloc _).block j (by rw [(HSS.out j).1 hj]; exact XX.out.lt) id, ?_⟩
      refine Mix.mix_world fun V hV => ?_
      have D2 := hid (show Ch (fun _ => False) wr V from by rw [hV]; exact ((Ch.refl (fun _ => False) wr).drewN y2).alloc _)
      have T2 := hid (show Blk V wr.heap.size 266 #[.int .u64 (hdl x.at'), .int .i64 x.m.b, .int .i64 x.m.r, .int .i64 x.m.l] from by rw [hV]; exact Blk.new (wr.drewN y2) _ _)
      clear hV r0 r2 r3 r4 x2 q0
      have X2 := hid (D2.out.blk XX.out id)
      have R2 := hid (D2.out.blk RR.out id)
      have O2 := hid (D2.out.own OO.out (fun _ _ => id))
      have hb0V : b0 + 1 < V.heap.size := X2.out.lt
      refine Mix.mix_e (by simp only [List.getElem?_toArray, List.getElem?_cons_zero, List.getElem?_cons_succ]; exact rfl) rfl fun W3 hW3 => ?_
      obtain ⟨y3, rfl⟩ := hW3
      refine wpList_app _ rfl _ _ 227 rfl b0 266 i0 _ 4 32 Tryz.underlying227 hi hz0 hz1 hz2 rfl (by decide) (.slice A0 k c0) k _ rfl (((Ch.refl (fun _ => False) V).drewN y3).own O2.out (fun _ _ => id)) ⟨wr.heap.size, 0, none⟩ 1 1 x.cells rfl rfl ?c1 ?c2 (by decide) ?c3 ?c4 ?c5 ?_
      case c1 =>
        intro j u hu
        rw [addr_add0]
        exact ((T2.out.drewN y3).cell j).trans (by rw [← hu, ← Array.getElem?_toList]; rfl)
      case c2 => intro u hu; simp [Kd.cells] at hu; rcases hu with rfl | rfl | rfl | rfl <;> rfl
      case c3 => unfold maxLen; omega
      case c4 => omega
      case c5 => show b0 ≤ V.heap.size; omega
      intro v' w' hown' hgrow hfresh
      have CR := hid (show Ch (fun k' => (Value.slice A0 k c0).ownBlock = some k') V w' from ((Ch.refl _ V).drewN y3).grown hgrow (fun k hk _ => hk))
      have OW := hid hown'
      have X3 := hid (CR.out.blk X2.out (X2.out.own O2.out (by decide)))
      have R3 := hid (CR.out.blk R2.out (R2.out.own O2.out (by decide)))
      obtain ⟨A3, c3, hv3, _⟩ := own_slice hown'
      subst hv3
      clear hown' hgrow hfresh
      have s1 := X3.out.free 2
      have x3 : w'.cell? ⟨b0 + 1, 2, none⟩ = some (.slice A0 k c0) := X3.out.cell 2
      go_wp2_with fail
      refine Mix.mix_world fun V2 hV2 => ?_
      subst hV2
      repeat (first | (refine Mix.mix_q (by simp only [List.getElem?_toArray, List.getElem?_cons_zero, List.getElem?_cons_succ]; exact rfl) rfl ?_; go_big_quiet_step (fail); refine wpQuiet_nil ?_) | (refine Mix.mix_p (by simp only [List.getElem?_toArray, List.getElem?_cons_zero, List.getElem?_cons_succ]; exact rfl) rfl rfl ?_; go_big_quiet_step (fail); refine wpQuiet_nil ?_) | (refine Mix.mix_s (by simp only [List.getElem?_toArray, List.getElem?_cons_zero, List.getElem?_cons_succ]; exact rfl) rfl rfl ?_; go_big_quiet_step (fail); refine wpQuiet_nil ?_))
      refine Mix.mix_e (by simp only [List.getElem?_toArray, List.getElem?_cons_zero, List.getElem?_cons_succ]; exact rfl) rfl fun W4 hW4 => ?_
      obtain ⟨y4, rfl⟩ := hW4
      go_wp2_with fail
      intro y5
      go_wp2_with fail
      have kx : (kids.take (k + 1)).flatMap Kd.cells = (kids.take k).flatMap Kd.cells ++ x.cells := by
        rw [List.take_add_one, HX.out, List.flatMap_append]
        simp
      have CF : Ch (fun j => j = b0 + 1) V2 (((V2.drewN y4).setCell ⟨b0 + 1, 2, none⟩ (.slice A3 (k + 1) c3)).drewN y5) := (((Ch.refl (fun j => j = b0 + 1) V2).drewN y4).set (fun _ => rfl) _).drewN y5
      refine ⟨⟨k + 1, .slice A3 (k + 1) c3, hlt, by push_cast; rfl, CF.blk R3.out (by omega), ((X3.out.drewN y4).put 2 _).drewN y5, ?_, ?_⟩, by simp only [intOf]; omega⟩
      · rw [kx]
        exact CF.own OW.out (fun j hj e => (X3.out.own OW.out (by decide)) (e ▸ hj))
      · have hzz := HZ.out
        refine (CC.out.trans D2.out (fun _ _ e => e)).trans ((CR.out.mono (fp' := fun j => j = b0 + 1 ∨ (Value.slice A0 k c0).ownBlock = some j) (fun _ _ e => .inr e)).trans CF (fun _ _ e => .inl e)) (fun i hi e => ?_)
        rcases e with e | e
        · omega
        · have := OO.out.lt i e; omega
    · obtain rfl : N = k := by omega
      have y1 : decide (N < N) = false := decide_eq_false (by omega)
      have x0 : wr.cell? ⟨b0 + 1, 0, none⟩ = some (.int .i64 (h : Int)) := XX.out.cell 0
      have x1 : wr.cell? ⟨b0 + 1, 1, none⟩ = some (.string ⟨#[]⟩) := XX.out.cell 1
      have x2 : wr.cell? ⟨b0 + 1, 2, none⟩ = some (.slice A0 N c0) := XX.out.cell 2
      have f0 := RR.out.free 0
      have f1 := RR.out.free 1
      have f2 := RR.out.free 2
      have z0 : wr.cell? ⟨b0, 0, none⟩ = some (.int .i64 0) := RR.out.cell 0
      have z1 : wr.cell? ⟨b0, 1, none⟩ = some (.string ⟨#[]⟩) := RR.out.cell 1
      have z2 : wr.cell? ⟨b0, 2, none⟩ = some (.slice none 0 0) := RR.out.cell 2
      go_wp2_with fail
      refine at_world fun WZ hWZ => ?_
      have CZ := hid (show Ch (fun k => k = b0) wr WZ from by rw [hWZ]; exact (((Ch.refl (fun k => k = b0) wr).set (fun _ => rfl) _).set (fun _ => rfl) _).set (fun _ => rfl) _)
      have BZ := hid (show Blk WZ b0 229 #[.int .i64 (h : Int), .string ⟨#[]⟩, .slice A0 N c0] from by rw [hWZ]; exact (((RR.out.put 0 _).put 1 _).put 2 _))
      clear hWZ
      have t0 : WZ.cell? ⟨b0, 0, none⟩ = some (.int .i64 (h : Int)) := BZ.out.cell 0
      have t1 : WZ.cell? ⟨b0, 1, none⟩ = some (.string ⟨#[]⟩) := BZ.out.cell 1
      have t2 : WZ.cell? ⟨b0, 2, none⟩ = some (.slice A0 N c0) := BZ.out.cell 2
      have htk : kids.take N = kids := by rw [HN.out]; exact List.take_length
      have hO := OO.out
      rw [htk] at hO
      have hzz := HZ.out
      refine bodyPost_ret (v := .agg #[.int .i64 (h : Int), .string ⟨#[]⟩, .slice A0 N c0]) (by simp [results, Tryz.results162, go_sem, t0, t1, t2]) rfl ⟨A0, c0, rfl, ?_, CC.out.trans CZ.out (fun i hi e => absurd hi (by omega))⟩
      rw [← hzz]
      exact CZ.out.own hO (fun j hj e => (RR.out.own OO.out (by decide)) (e ▸ hj))
end Go.Proofs.YtjcdknhejcbpiaaGreat
