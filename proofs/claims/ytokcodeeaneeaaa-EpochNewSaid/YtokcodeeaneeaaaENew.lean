/- EpochNew: the walk. -/
import Derived.Test.YtokcodeeaneeaaaEpA
namespace Go.Proofs.Ytokcodeeaneeaaa
open Go.RowKit
set_option linter.unusedVariables false
set_option linter.unusedSimpArgs false

theorem eerr_zero {s : BS} {ep sl n : Int} (h : eerr s.vs ep sl n = 0) : ∃ a m : Nat, ep = a ∧ n = m ∧ (lk s.vs a = 0 ∧ pinL s ⟨a, sl, m⟩ m = []) ∧ EdOk s ⟨a, sl, m⟩ := by
  unfold eerr at h
  split at h
  · cases h
  · split at h
    · cases h
    · split at h
      · cases h
      · split at h
        · cases h
        · rename_i h1 h2 h3 h4
          have h2' : (0 ≤ ep ∧ ep < s.vs.length) ∧ (n = 0 ∨ (0 ≤ sl ∧ sl ≤ s.vs.length - n)) := Classical.byContradiction h2
          obtain ⟨a, rfl⟩ := Int.eq_ofNat_of_zero_le h2'.1.1
          obtain ⟨m, rfl⟩ := Int.eq_ofNat_of_zero_le (show 0 ≤ n by omega)
          have key : ∀ i : Nat, i < m → lk s.vs (sl + (i : Int)).toNat = 0 := by
            intro i hi
            have h0 : 0 ≤ sl := by omega
            exact Classical.byContradiction fun hne => h4 (.inr ⟨(sl + (i : Int)).toNat, by omega, by omega, hne⟩)
          refine ⟨a, m, rfl, rfl, ⟨Classical.byContradiction fun hne => h4 (.inl (by rw [Int.toNat_natCast]; exact hne)), ?_⟩, by show a < _; omega, by show m ≤ 64; omega, fun i hi => ?_⟩
          · unfold pinL
            have : (List.range m).filter (fun (i : Nat) => lk s.vs (sl + (i : Int)).toNat != 0) = [] := by
              rw [List.filter_eq_nil_iff]
              intro i hi
              simp [key i (List.mem_range.1 hi)]
            show List.map _ (List.filter (fun (i : Nat) => lk s.vs (sl + (i : Int)).toNat != 0) (List.range m)) = []
            rw [this]; rfl
          · have hi' : i < m := hi
            show 0 ≤ sl + (i : Int) ∧ sl + (i : Int) < _
            omega

def placeKs : List (Option IntKind) := [some .i64, some .i64, some .i64, some .i64, some .i64, some .u64]
set_option maxRecDepth 100000 in
set_option maxHeartbeats 2000000 in
theorem walkENew (z : List Value) (w : World) (hz : Fits placeKs z) : Calls Try.prog 3 #[.agg z.toArray] w fun e w' => e = .returned (.bool true) ∧ Below w.heap.size w w' := by
  obtain ⟨c, ep, sl, n, st, v, rfl, hv⟩ : ∃ c ep sl n st v, z = [.int .i64 c, .int .i64 ep, .int .i64 sl, .int .i64 n, .int .i64 st, .int .u64 v] ∧ (0 ≤ v ∧ v < 18446744073709551616) := by
    obtain ⟨hl, hf⟩ := hz
    obtain ⟨v0, e0, n0, rfl, _⟩ := hf 0 _ rfl
    obtain ⟨v1, e1, n1, rfl, _⟩ := hf 1 _ rfl
    obtain ⟨v2, e2, n2, rfl, _⟩ := hf 2 _ rfl
    obtain ⟨v3, e3, n3, rfl, _⟩ := hf 3 _ rfl
    obtain ⟨v4, e4, n4, rfl, _⟩ := hf 4 _ rfl
    obtain ⟨v5, e5, n5, rfl, w5⟩ := hf 5 _ rfl
    refine ⟨n0, n1, n2, n3, n4, n5, ?_, wf_u64 w5⟩
    match z, hl with
    | [a, b, c, d, e, f], _ => simp at e0 e1 e2 e3 e4 e5; simp [e0, e1, e2, e3, e4, e5]
  have Hv := hid hv
  clear hz hv
  have hbel0 : ∀ o, Below w.heap.size w (w.alloc o) := fun o => ((Ch.refl (fun _ => False) w).alloc _).below (Nat.le_refl _) (fun _ h => h.elim)
  by_cases h1 : c < 1
  · have d1 : decide (c < 1) = true := decide_eq_true h1
    go_enter Try.func3, Try.ntmps3
    go_wp2_with fail
    go_ret
    exact ⟨rfl, hbel0 _⟩
  have d1 : decide (c < 1) = false := decide_eq_false h1
  by_cases h2 : 100 < c
  · have d2 : decide (100 < c) = true := decide_eq_true h2
    go_enter Try.func3, Try.ntmps3
    go_wp2_with fail
    go_ret
    exact ⟨rfl, hbel0 _⟩
  have d2 : decide (100 < c) = false := decide_eq_false h2
  obtain ⟨k, hk⟩ := Int.eq_ofNat_of_zero_le (show 0 ≤ c by omega)
  have hk1 : 1 ≤ k ∧ k ≤ 100 := by omega
  have Hk := hid hk
  clear hk
  obtain ⟨S, hS⟩ : ∃ S : Nat → Prop, ∀ k, S k ↔ k = w.heap.size := ⟨_, fun _ => Iff.rfl⟩
  have hSp : Mix.Has S w.heap.size := (hS _).2 rfl
  have HS := hid hS
  clear hS
  go_enter Try.func3, Try.ntmps3
  go_wp2_with fail
  rw [show (.int .i64 c : Value) = .int .i64 (k : Int) by rw [Hk.out]]
  refine calls_world fun w1 hw1 => ?_
  have hx1 : Blk w1 w.heap.size 24 #[.int .i64 c, .int .i64 ep, .int .i64 sl, .int .i64 n, .int .i64 st, .int .u64 v] := by rw [hw1]; rw [show c = (k : Int) from Hk.out]; exact Blk.new w _ _
  have hb1 : Below w.heap.size w w1 := by rw [hw1]; exact hbel0 _
  clear hw1
  refine (new_ok w.heap.size k hk1.1 (by omega) w1 hb1.size).mono ?_
  rintro e w2 ⟨p, cb, rfl, hbank, hc2, hp2, hcb2⟩
  have hb2 := hb1.trans (hc2.below hb1.size (fun _ h => h.elim))
  have hx2 := hc2.blk hx1 id
  clear hx1 hc2
  have g0 : w2.cell? ⟨w.heap.size, 0, none⟩ = some (.int .i64 c) := hx2.cell 0
  have g1 : w2.cell? ⟨w.heap.size, 1, none⟩ = some (.int .i64 ep) := hx2.cell 1
  have g2 : w2.cell? ⟨w.heap.size, 2, none⟩ = some (.int .i64 sl) := hx2.cell 2
  have g3 : w2.cell? ⟨w.heap.size, 3, none⟩ = some (.int .i64 n) := hx2.cell 3
  have g4 : w2.cell? ⟨w.heap.size, 4, none⟩ = some (.int .i64 st) := hx2.cell 4
  have g5 : w2.cell? ⟨w.heap.size, 5, none⟩ = some (.int .u64 v) := hx2.cell 5
  have Hbk := hid hbank
  have Hx2 := hid hx2
  clear hbank hx2
  go_wp2_with fail
  rw [show (.int .i64 c : Value) = .int .i64 (k : Int) by rw [Hk.out]]
  refine (rnew_ok w.heap.size k hk1.1 (by omega) w2 hb2.size).mono ?_
  rintro e w3 ⟨q, vb, rfl, hrb, hc3, hp3, hcb3⟩
  have hb3 := hb2.trans (hc3.below hb2.size (fun _ h => h.elim))
  have hx3 := hc3.blk Hx2.out id
  have T3 : Two w.heap.size w3 p cb (.slice none 0 0) ⟨List.replicate k 0, []⟩ q vb (.slice none 0 0) ⟨List.replicate k 0, []⟩ := ⟨Hbk.out.ch hc3 id id (fun _ _ => id), hrb, fun k hk => by simp [Value.ownBlock] at hk⟩
  clear g0 g1 g2 g3 g4 g5
  have g0 : w3.cell? ⟨w.heap.size, 0, none⟩ = some (.int .i64 c) := hx3.cell 0
  have g1 : w3.cell? ⟨w.heap.size, 1, none⟩ = some (.int .i64 ep) := hx3.cell 1
  have g2 : w3.cell? ⟨w.heap.size, 2, none⟩ = some (.int .i64 sl) := hx3.cell 2
  have g3 : w3.cell? ⟨w.heap.size, 3, none⟩ = some (.int .i64 n) := hx3.cell 3
  have g4 : w3.cell? ⟨w.heap.size, 4, none⟩ = some (.int .i64 st) := hx3.cell 4
  have g5 : w3.cell? ⟨w.heap.size, 5, none⟩ = some (.int .u64 v) := hx3.cell 5
  have HT3 := hid T3
  have Hx3 := hid hx3
  clear T3 hx3 hrb hc3
  go_wp2_with fail
  refine Mix.wp_region_mix S (fun i => ([0, 0, 0, 0, 0, 0, 0, 0, 0, 0, 0, 0, 0, 0, 0, 0, 3, 1, 1, 4, 1, 4, 2, 0, 0] : List Nat).getD i 0) [0, 1, 2, 3, 4, 5, 6, 7, 8, 9, 10, 11, 12, 13, 14, 15, 17, 18, 19, 20, 21, 16, 22, 23, 24] (by kernel_rfl) (by kernel_rfl) ?_
  repeat (first | (refine Mix.mix_q (by simp only [List.getElem?_toArray, List.getElem?_cons_zero, List.getElem?_cons_succ]; exact rfl) rfl ?_; go_big_quiet_step (fail); refine wpQuiet_nil ?_) | (refine Mix.mix_p (by simp only [List.getElem?_toArray, List.getElem?_cons_zero, List.getElem?_cons_succ]; exact rfl) rfl rfl ?_; go_big_quiet_step (fail); refine wpQuiet_nil ?_) | (refine Mix.mix_s (by simp only [List.getElem?_toArray, List.getElem?_cons_zero, List.getElem?_cons_succ]; exact rfl) rfl rfl ?_; go_big_quiet_step (fail); refine wpQuiet_nil ?_))
  refine Mix.mix_a (by simp only [List.getElem?_toArray, List.getElem?_cons_zero, List.getElem?_cons_succ]; exact rfl) rfl fun W1 hW1 => ?_
  obtain ⟨n1, rfl⟩ := hW1
  have T3d := hid (HT3.out.ch ((Ch.refl (fun _ => False) w3).drewN n1))
  have hx3d := Hx3.out.drewN n1
  go_wp2_with fail
  refine (store_any w.heap.size p cb (.slice none 0 0) ⟨List.replicate k 0, []⟩ 0 st _ T3d.out.b (by show 0 < 1000000; decide) hb3.size v Hv.out).mono ?_
  rintro e w4 ⟨rfl, hs4⟩
  obtain ⟨lv4, T4, c4⟩ := T3d.out.stepB hs4
  have hx4 := c4.blk hx3d (T3d.out.b.out hx3d (by decide) (by decide) (by decide))
  have hb4 : Below w.heap.size w w4 := (hb3.trans (((Ch.refl (fun _ => False) w3).drewN n1).below hb3.size (fun _ h => h.elim))).trans (BStep.below hs4 T3d.out.b hb3.size)
  have hkeep : Mix.Keep S w3 w4 := fun j hj => by rw [(HS.out j).1 hj]; exact hx4.trans Hx3.out.symm
  clear g0 g1 g2 g3 g4 g5
  have g0 : w4.cell? ⟨w.heap.size, 0, none⟩ = some (.int .i64 c) := hx4.cell 0
  have g1 : w4.cell? ⟨w.heap.size, 1, none⟩ = some (.int .i64 ep) := hx4.cell 1
  have g2 : w4.cell? ⟨w.heap.size, 2, none⟩ = some (.int .i64 sl) := hx4.cell 2
  have g3 : w4.cell? ⟨w.heap.size, 3, none⟩ = some (.int .i64 n) := hx4.cell 3
  have g4 : w4.cell? ⟨w.heap.size, 4, none⟩ = some (.int .i64 st) := hx4.cell 4
  have g5 : w4.cell? ⟨w.heap.size, 5, none⟩ = some (.int .u64 v) := hx4.cell 5
  have HT4 := hid T4
  have Hx4 := hid hx4
  obtain ⟨E, hE⟩ : ∃ E, E = BS.err ⟨List.replicate k 0, []⟩ 0 st := ⟨_, rfl⟩
  rw [← hE]
  have HE := hid hE
  clear hE T4 hx4 c4 hs4 hx3d
  go_wp2_with fail
  refine ⟨hkeep, ?_⟩
  clear hkeep
  repeat (first | (refine Mix.mix_q (by simp only [List.getElem?_toArray, List.getElem?_cons_zero, List.getElem?_cons_succ]; exact rfl) rfl ?_; go_big_quiet_step (fail); refine wpQuiet_nil ?_) | (refine Mix.mix_p (by simp only [List.getElem?_toArray, List.getElem?_cons_zero, List.getElem?_cons_succ]; exact rfl) rfl rfl ?_; go_big_quiet_step (fail); refine wpQuiet_nil ?_) | (refine Mix.mix_s (by simp only [List.getElem?_toArray, List.getElem?_cons_zero, List.getElem?_cons_succ]; exact rfl) rfl rfl ?_; go_big_quiet_step (fail); refine wpQuiet_nil ?_))
  refine Mix.mix_e (by simp only [List.getElem?_toArray, List.getElem?_cons_zero, List.getElem?_cons_succ]; exact rfl) rfl fun W2 hW2 => ?_
  obtain ⟨n2, rfl⟩ := hW2
  have T4d := hid (HT4.out.ch ((Ch.refl (fun _ => False) w4).drewN n2))
  have hx4d := Hx4.out.drewN n2
  go_wp2_with fail
  refine (rstore_any w.heap.size q vb (.slice none 0 0) ⟨List.replicate k 0, []⟩ 0 st _ T4d.out.r (by show 0 < 1000000; decide) hb4.size v).mono ?_
  rintro e w5 ⟨rfl, hs5⟩
  obtain ⟨mv5, T5, c5⟩ := T4d.out.stepR hs5
  have hx5 := c5.blk hx4d (T4d.out.r.out hx4d (by decide) (by decide) (by decide))
  have hb5 : Below w.heap.size w w5 := (hb4.trans (((Ch.refl (fun _ => False) w4).drewN n2).below hb4.size (fun _ h => h.elim))).trans (RStep.below hs5 T4d.out.r hb4.size)
  rw [← HE.out]
  have hne : (E != E) = false := by simp
  clear g0 g1 g2 g3 g4 g5
  have g0 : w5.cell? ⟨w.heap.size, 0, none⟩ = some (.int .i64 c) := hx5.cell 0
  have g1 : w5.cell? ⟨w.heap.size, 1, none⟩ = some (.int .i64 ep) := hx5.cell 1
  have g2 : w5.cell? ⟨w.heap.size, 2, none⟩ = some (.int .i64 sl) := hx5.cell 2
  have g3 : w5.cell? ⟨w.heap.size, 3, none⟩ = some (.int .i64 n) := hx5.cell 3
  have g4 : w5.cell? ⟨w.heap.size, 4, none⟩ = some (.int .i64 st) := hx5.cell 4
  have g5 : w5.cell? ⟨w.heap.size, 5, none⟩ = some (.int .u64 v) := hx5.cell 5
  have HT5 := hid T5
  have Hx5 := hid hx5
  clear T5 hx5 c5 hs5 hx4d
  go_wp2_with fail
  repeat (refine Mix.mix_q (by simp only [List.getElem?_toArray, List.getElem?_cons_zero, List.getElem?_cons_succ]; exact rfl) rfl ?_; go_big_quiet_step (fail); refine wpQuiet_nil ?_)
  intro n3
  go_wp2_with fail
  refine calls_world fun w6 hw6 => ?_
  have T6 := HT5.out.ch ((Ch.refl (fun _ => False) w5).drewN n3)
  rw [← hw6] at T6
  have hx6 := Hx5.out.drewN n3
  rw [← hw6] at hx6
  have hb6 : Below w.heap.size w w6 := by rw [hw6]; exact hb5.trans (((Ch.refl (fun _ => False) w5).drewN n3).below hb5.size (fun _ h => h.elim))
  clear hw6
  clear g0 g1 g2 g3 g4 g5
  have g0 : w6.cell? ⟨w.heap.size, 0, none⟩ = some (.int .i64 c) := hx6.cell 0
  have g1 : w6.cell? ⟨w.heap.size, 1, none⟩ = some (.int .i64 ep) := hx6.cell 1
  have g2 : w6.cell? ⟨w.heap.size, 2, none⟩ = some (.int .i64 sl) := hx6.cell 2
  have g3 : w6.cell? ⟨w.heap.size, 3, none⟩ = some (.int .i64 n) := hx6.cell 3
  have g4 : w6.cell? ⟨w.heap.size, 4, none⟩ = some (.int .i64 st) := hx6.cell 4
  have g5 : w6.cell? ⟨w.heap.size, 5, none⟩ = some (.int .u64 v) := hx6.cell 5
  obtain ⟨s, hs⟩ : ∃ s, s = BS.doStore ⟨List.replicate k 0, []⟩ 0 st v := ⟨_, rfl⟩
  rw [← hs] at T6
  have HT6 := hid T6
  clear T6
  have hsv : s.vs.length ≤ 4096 := by
    rw [hs]; unfold BS.doStore
    split
    · show ((List.replicate k 0).set _ _).length ≤ 4096
      rw [List.length_set, List.length_replicate]; omega
    · show (List.replicate k 0).length ≤ 4096
      rw [List.length_replicate]; omega
  clear hs
  refine (len_any w.heap.size p cb lv4 s w6 HT6.out.b).mono ?_
  rintro e w6' ⟨rfl, rfl⟩
  go_wp2_with fail
  refine (enew_any w.heap.size p cb lv4 s ep sl n w6 HT6.out.b hsv).mono ?_
  rintro e w7 ⟨hc7, hr7⟩
  have hb7 := hb6.trans (hc7.below hb6.size (fun _ h => h.elim))
  have HT7 := hid (HT6.out.ch hc7)
  have hx7 := hc7.blk hx6 id
  clear g0 g1 g2 g3 g4 g5
  have g0 : w7.cell? ⟨w.heap.size, 0, none⟩ = some (.int .i64 c) := hx7.cell 0
  have g1 : w7.cell? ⟨w.heap.size, 1, none⟩ = some (.int .i64 ep) := hx7.cell 1
  have g2 : w7.cell? ⟨w.heap.size, 2, none⟩ = some (.int .i64 sl) := hx7.cell 2
  have g3 : w7.cell? ⟨w.heap.size, 3, none⟩ = some (.int .i64 n) := hx7.cell 3
  have g4 : w7.cell? ⟨w.heap.size, 4, none⟩ = some (.int .i64 st) := hx7.cell 4
  have g5 : w7.cell? ⟨w.heap.size, 5, none⟩ = some (.int .u64 v) := hx7.cell 5
  have Hx7 := hid hx7
  clear hx6 hx7 hc7
  obtain ⟨K, hK⟩ : ∃ K, K = eerr s.vs ep sl n := ⟨_, rfl⟩
  rw [← hK] at hr7
  have hnn : (((s.lg.length : Nat) : Int) != ((s.lg.length : Nat) : Int)) = false := by simp
  rcases hr7 with ⟨hK0, rfl⟩ | ⟨hK0, qb, pb, hqb, hpb, rfl, hqd, hpd⟩
  · have HK := hid hK
    have hKK : (K != K) = false := by simp
    clear hK
    have HK0 := hid hK0
    clear hK0
    go_wp2_with fail
    refine (renew_any w.heap.size q vb mv5 s ep sl n w7 HT7.out.r hsv).mono ?_
    rintro e w8 ⟨hc8, hr8⟩
    rw [← HK.out] at hr8
    have hb8 := hb7.trans (hc8.below hb7.size (fun _ h => h.elim))
    have HT8 := hid (HT7.out.ch hc8)
    rcases hr8 with ⟨_, rfl⟩ | ⟨hK0, _⟩
    · clear hc8
      go_wp2_with fail
      refine (len_any w.heap.size p cb lv4 s w8 HT8.out.b).mono ?_
      rintro e w8' ⟨rfl, rfl⟩
      go_wp2_with fail
      go_ret
      exact ⟨rfl, hb8⟩
    · exact absurd hK0 HK0.out
  · obtain ⟨a, m, ha, hm, m1, m2⟩ := eerr_zero (hK.symm.trans hK0)
    subst ha hm
    have HK := hid (hK.symm.trans hK0)
    have HE8 : EpochM w.heap.size w7 p cb qb lv4 s ⟨a, sl, m⟩ (.slice (some ⟨pb, 0, none⟩) m m) (.pointer none) := ⟨HT7.out.b, by simpa [edCells] using hqd, m2, Nat.le_trans hb6.size hqb⟩
    have HE := hid HE8
    have M1 := hid m1
    clear hqd hpd hK hK0 m1 m2 HE8
    go_wp2_with fail
    refine (renew_any w.heap.size q vb mv5 s a sl m w7 HT7.out.r hsv).mono ?_
    rintro e w8 ⟨hc8, hr8⟩
    rw [HK.out] at hr8
    have hb8 := hb7.trans (hc8.below hb7.size (fun _ h => h.elim))
    have HE8 := hid (HE.out.keep hc8)
    rcases hr8 with ⟨hn0, _⟩ | ⟨_, _, yb, _, _, _, rfl, _, _⟩
    · exact absurd rfl hn0
    · clear hc8
      go_wp2_with fail
      refine (len_any w.heap.size p cb lv4 s w8 HE8.out.b).mono ?_
      rintro e w8' ⟨rfl, rfl⟩
      go_wp2_with fail
      refine (now_any w.heap.size p cb qb lv4 s _ _ _ w8 HE8.out).mono ?_
      rintro e w9 ⟨rfl, n9, rfl⟩
      have c9 : Ch (fun _ => False) w8 (w8.drewN n9) := (Ch.refl _ w8).drewN n9
      have HE9 := hid (HE8.out.keep c9)
      have hb9 := hb8.trans (c9.below hb8.size (fun _ h => h.elim))
      rw [show lk s.vs (Ed.ep ⟨a, sl, m⟩) = 0 from M1.out.1]
      clear c9
      go_wp2_with fail
      refine (pinned_any w.heap.size p cb qb lv4 s _ _ _ _ HE9.out).mono ?_
      rintro e w10 ⟨v10, rfl, hrow, c10⟩
      rw [show pinL s ⟨a, sl, m⟩ (Ed.n ⟨a, sl, m⟩) = [] from M1.out.2] at hrow
      obtain ⟨A10, k10, hv10, _⟩ := own_slice hrow
      subst hv10
      have hb10 := hb9.trans (c10.below hb9.size (fun _ h => h.elim))
      clear hrow c10
      go_wp2_with fail
      go_ret
      exact ⟨rfl, hb10⟩
end Go.Proofs.Ytokcodeeaneeaaa
