/- Lemmas that the proof of the last text leans on; no condition. -/
import Derived.Test.YtjcdknhejcbpiaaGreatNb44
import Derived.Test.YtjcdknhejcbpiaaGreatNb45
import Derived.Test.YtjcdknhejcbpiaaGreatNb37
import Derived.Test.YtjcdknhejcbpiaaGreatNb46
import Derived.Test.YtjcdknhejcbpiaaGreatNb47
import Derived.Test.YtjcdknhejcbpiaaGreatNb11
import Derived.Test.YtjcdknhejcbpiaaGreatNb06
import Derived.Deep.CutRange
namespace Go.Proofs.YtjcdknhejcbpiaaGreat
open Go.RowKit
set_option linter.unusedVariables false
set_option linter.unusedSimpArgs false
set_option linter.unusedSectionVars false
theorem cnt6_take {l : List EvR} {k : Nat} {x : EvR} (h : l[k]? = some x) : cnt6 (l.take (k + 1)) = cnt6 (l.take k) + (if x.d.tmod 8 = 6 then 1 else 0) := by
  have hkl := List.getElem?_eq_some_iff.1 h
  rw [List.take_succ_eq_append_getElem hkl.1, hkl.2]
  unfold cnt6
  rw [List.filter_append, List.length_append]
  by_cases h6 : x.d.tmod 8 = 6 <;> simp [h6]
theorem cnt6_le (l : List EvR) (k : Nat) : cnt6 (l.take k) ≤ cnt6 l := by
  unfold cnt6
  exact List.Sublist.length_le ((List.take_sublist k l).filter _)
structure AnI (w0 : World) (pg bp ab n : Nat) (y : Ly) (c k : Nat) (W : World) (σ : RS) (bs : List Bx) (p : PlS) (ts : List (List UInt8)) (x : RsV) : Prop where
  M : Mem w0.heap.size w0 (σ.L w0.heap.size ++ (boxR bs :: (p.L w0.heap.size σ.r.sb σ.g n ++ [blkR ab 83 y.arr]))) W
  K : RnOk σ y n n ts none
  G : PgAt σ bs n n ts (.fin x)
  hg : p.g = pg
  hp : σ.p = bp
  an : σ.A.n = 200
  nl : σ.ns.length ≤ 11 + 11 * c
  tl : ts.length = 1 + c
  lg : σ.s.lg.length ≤ 300 * k
  f : σ.f = ⟨2, 6, 2 * n⟩
  cl : σ.r.cl = 1
  y0 : y.l0 = 0 ∧ y.l1 = 1 ∧ y.l2 = 2 ∧ y.l6 = 6
theorem AnI.next {w0 : World} {pg bp ab n : Nat} {y : Ly} {c k : Nat} {W W' : World} {σ : RS} {bs : List Bx} {p : PlS} {ts : List (List UInt8)} {x : RsV} (h : AnI w0 pg bp ab n y c k W σ bs p ts x) (ch : Ch (fun _ => False) W W') : AnI w0 pg bp ab n y c (k + 1) W' σ bs p ts x :=
  { h with M := h.M.keep ch, lg := by have := h.lg; omega }
theorem cop_kind (c : Cop) : c = .acq ∨ (∃ k, c = .rel k) ∨ (c.op.k ≠ 5 ∧ c.op.k ≠ 13) := by
  cases c with
  | acq => exact .inl rfl
  | rel k => exact .inr (.inl ⟨k, rfl⟩)
  | len k => exact .inr (.inr ⟨by show (6 : Int) ≠ 5; decide, by show (6 : Int) ≠ 13; decide⟩)
  | read k a b => exact .inr (.inr ⟨by show (7 : Int) ≠ 5; decide, by show (7 : Int) ≠ 13; decide⟩)
  | rune k b => exact .inr (.inr ⟨by show (8 : Int) ≠ 5; decide, by show (8 : Int) ≠ 13; decide⟩)
  | line k b => exact .inr (.inr ⟨by show (9 : Int) ≠ 5; decide, by show (9 : Int) ≠ 13; decide⟩)
  | mark k i => exact .inr (.inr ⟨by show (10 : Int) ≠ 5; decide, by show (10 : Int) ≠ 13; decide⟩)
  | seek k a => exact .inr (.inr ⟨by show (11 : Int) ≠ 5; decide, by show (11 : Int) ≠ 13; decide⟩)
  | next k b => exact .inr (.inr ⟨by show (12 : Int) ≠ 5; decide, by show (12 : Int) ≠ 13; decide⟩)
set_option maxRecDepth 100000 in
set_option maxHeartbeats 60000000 in
theorem announces_walk (s : ByteArray) (rd : Int) (a : Option Addr) (nn c : Nat) (l : List EvR) (w0 : World) (h : InEvR w0 a nn l) (hs : s.size ≤ maxLen) :
    Calls Tryz.prog 7 #[.string s, .int .i64 rd, .slice a nn c] w0 fun e w' => e = .returned (.bool true) ∧ Below w0.heap.size w0 w' := by
  have HE := hid h
  have HSM := hid hs
  clear h hs
  go_enter Tryz.func7, Tryz.ntmps7
  go_wp2_with fail
  refine (lshort_any s rd a nn c l w0 HE.out HSM.out).mono ?_
  rintro e w1 ⟨b, rfl, hb1, hsp⟩
  have HB1 := hid hb1
  cases b with
  | false =>
    go_wp2_with fail
    go_ret
    exact ⟨rfl, HB1.out⟩
  | true =>
    obtain ⟨h1, h2, h3, h4, h5, h6, h7⟩ := hsp rfl
    obtain ⟨n, hn⟩ : ∃ n : Nat, rd = (n : Int) := ⟨rd.toNat, by omega⟩
    subst hn
    have HS1 := hid h1
    have HS2 := hid h2
    have hn4 : n ≤ 4 := by omega
    have HS6 := hid h6
    have HS7 := hid h7
    clear h1 h2 h3 h4 h6 h7 hsp hb1
    by_cases hnn : 100 < nn
    · have d1 : decide (100 < nn) = true := decide_eq_true hnn
      have d1' : decide ((100 : Int) < (nn : Int)) = true := decide_eq_true (by omega)
      go_wp2_with fail
      go_ret
      exact ⟨rfl, HB1.out⟩
    have d1 : decide (100 < nn) = false := decide_eq_false hnn
    have d1' : decide ((100 : Int) < (nn : Int)) = false := decide_eq_false (by omega)
    have hnn : nn ≤ 100 := by omega
    go_wp2_with fail
    clear d1 d1' h5
    refine (plain_any w0 s n HS1.out HS2.out hn4 w1 HB1.out HB1.out.size).mono ?_
    rintro e w2 ⟨σ, p, y, rfl, hM, hP⟩
    have HP := hid hP
    have HK := hid hP.K
    have M2' := hid hM
    clear hM hP
    go_wp2_with fail
    refine at_world fun W2 hW2 => ?_
    have M2 := hid (show Mem w0.heap.size w0 (σ.L w0.heap.size ++ (boxR [] :: (p.L w0.heap.size σ.r.sb σ.g n ++ []))) W2 from by rw [hW2]; exact M2'.out)
    clear hW2 M2'
    have q0 : W2.cell? ⟨p.g, 0, none⟩ = some (.pointer (some ⟨σ.r.sb, 0, none⟩)) := (p_blk M2.out).cell 0
    have lp2 := (p_blk M2.out).lt
    obtain ⟨S, hS⟩ : ∃ S : Nat → Prop, ∀ k, S k ↔ k < W2.heap.size := ⟨_, fun _ => Iff.rfl⟩
    have hSp1 : Mix.Has S p.g := (hS _).2 lp2
    have HSS := hid hS
    clear hS
    refine Mix.wp_region_XJ S (fun i => ([1, 1, 1, 4, 3, 1, 1, 1, 4, 2, 3, 0, 2] : List Nat).getD i 0) (fun a0 a' w' => ∃ ab, a' = ((((((((((((a0.put (some 40) (.pointer (some ⟨p.g, 0, none⟩))).put (some 41) (.pointer (some ⟨p.g, 0, none⟩))).put (some 42) (.pointer (some ⟨p.g, 0, none⟩))).put (some 43) (.pointer (some ⟨σ.r.sb, 0, none⟩))).put (some 44) (.pointer (some ⟨σ.p, 0, none⟩))).put (some 45) (.pointer (some ⟨p.g, 0, none⟩))).put (some 46) (.pointer (some ⟨p.g, 0, none⟩))).put (some 47) (.pointer (some ⟨p.g, 0, none⟩))).put (some 48) (.pointer (some ⟨σ.r.sb, 0, none⟩))).put (some 49) (.agg #[.int .i64 y.l0, .int .i64 y.l1, .int .i64 y.l2, .int .i64 y.l3, .int .i64 y.l4, .int .i64 y.l5, .int .i64 y.l6, .int .i64 y.l7, .int .i64 y.l8, .int .i64 y.l9])).put (some 9) (.pointer (some ⟨ab, 0, none⟩))).put (some 8) (.pointer (some ⟨σ.p, 0, none⟩))) ∧ Mem w0.heap.size w0 (σ.L w0.heap.size ++ ((boxR [] :: (p.L w0.heap.size σ.r.sb σ.g n ++ [])) ++ [blkR ab 83 #[.int .i64 y.l0, .int .i64 y.l1, .int .i64 y.l2, .int .i64 y.l3, .int .i64 y.l4, .int .i64 y.l5, .int .i64 y.l6, .int .i64 y.l7, .int .i64 y.l8, .int .i64 y.l9]])) w') (by kernel_rfl) ?_ ?_
    · refine Mix.wpX_prefix (fuel := 5) (by kernel_rfl) [0, 1, 2, 5, 6, 7, 3, 8] _ _ _ (by kernel_rfl) ?_
      repeat (first | (refine Mix.mix_q (by simp only [List.getElem?_toArray, List.getElem?_cons_zero, List.getElem?_cons_succ]; exact rfl) rfl ?_; go_big_quiet_step (fail); refine wpQuiet_nil ?_) | (refine Mix.mix_p (by simp only [List.getElem?_toArray, List.getElem?_cons_zero, List.getElem?_cons_succ]; exact rfl) rfl rfl ?_; go_big_quiet_step (fail); refine wpQuiet_nil ?_) | (refine Mix.mix_s (by simp only [List.getElem?_toArray, List.getElem?_cons_zero, List.getElem?_cons_succ]; exact rfl) rfl rfl ?_; go_big_quiet_step (fail); refine wpQuiet_nil ?_))
      intro m0
      refine Mix.wpX_world fun V0 hV0 => ?_
      have MV0 := hid (show Mem w0.heap.size w0 (σ.L w0.heap.size ++ (boxR [] :: (p.L w0.heap.size σ.r.sb σ.g n ++ []))) V0 from by rw [hV0]; exact M2.out.drewN m0)
      have ZV0 := hid (show W2.heap.size ≤ V0.heap.size from by rw [hV0]; exact Nat.le_refl _)
      clear hV0
      refine Mix.wpX_two 4 10 (by kernel_rfl) ?_ ?_
      · refine Mix.mix_a (by simp only [List.getElem?_toArray, List.getElem?_cons_zero, List.getElem?_cons_succ]; exact rfl) rfl fun Q1 hQ1 => ?_
        obtain ⟨q1, rfl⟩ := hQ1
        go_wp2_with fail
        refine (sbank_any (V0.drewN q1) (m_st (MV0.out.drewN q1)) HK.out.O.stf).mono ?_
        rintro e w' ⟨rfl, rfl⟩
        go_wp2_with fail
        refine ⟨fun k hk => ((Ch.refl (fun _ => False) V0).drewN q1).block k (Nat.lt_of_lt_of_le ((HSS.out k).1 hk) ZV0.out) id, ?_⟩
        intro m1
        refine Mix.wpX_world fun V1 hV1 => ?_
        have MV1 := hid (show Mem w0.heap.size w0 (σ.L w0.heap.size ++ (boxR [] :: (p.L w0.heap.size σ.r.sb σ.g n ++ []))) V1 from by rw [hV1]; exact (MV0.out.drewN q1).drewN m1)
        have ZV1 := hid (show W2.heap.size ≤ V1.heap.size from by rw [hV1]; exact ZV0.out)
        clear hV1
        refine Mix.wpX_two 9 10 (by kernel_rfl) ?_ ?_
        · refine Mix.mix_e (by simp only [List.getElem?_toArray, List.getElem?_cons_zero, List.getElem?_cons_succ]; exact rfl) rfl fun E2 hE2 => ?_
          obtain ⟨e2, rfl⟩ := hE2
          go_wp2_with fail
          refine (slayout_any (V1.drewN e2) (m_st (MV1.out.drewN e2)) HK.out.O.stf).mono ?_
          rintro e E2w ⟨rfl, hm⟩
          have hM2 := hid (((MV1.out.drewN e2)).keep hm)
          have hz2 := hid hm.size
          simp only [Ly.arr]
          clear hm
          go_wp2_with fail
          intro m2
          refine Mix.wpX_world fun V2 hV2 => ?_
          have MV2 := hid (show Mem w0.heap.size w0 (σ.L w0.heap.size ++ (boxR [] :: (p.L w0.heap.size σ.r.sb σ.g n ++ []))) V2 from by rw [hV2]; exact hM2.out.drewN m2)
          have ZV2 := hid (show W2.heap.size ≤ V2.heap.size from by rw [hV2]; exact Nat.le_trans ZV1.out hz2.out)
          clear hV2
          refine Mix.wpX_prefix (fuel := 0) (by kernel_rfl) [10, 11, 12] _ _ _ (by kernel_rfl) ?_
          repeat (first | (refine Mix.mix_q (by simp only [List.getElem?_toArray, List.getElem?_cons_zero, List.getElem?_cons_succ]; exact rfl) rfl ?_; go_big_quiet_step (fail); refine wpQuiet_nil ?_) | (refine Mix.mix_p (by simp only [List.getElem?_toArray, List.getElem?_cons_zero, List.getElem?_cons_succ]; exact rfl) rfl rfl ?_; go_big_quiet_step (fail); refine wpQuiet_nil ?_) | (refine Mix.mix_s (by simp only [List.getElem?_toArray, List.getElem?_cons_zero, List.getElem?_cons_succ]; exact rfl) rfl rfl ?_; go_big_quiet_step (fail); refine wpQuiet_nil ?_))
          refine Mix.mix_a (by simp only [List.getElem?_toArray, List.getElem?_cons_zero, List.getElem?_cons_succ]; exact rfl) rfl fun Y3 hY3 => ?_
          obtain ⟨y3, rfl⟩ := hY3
          go_wp2_with fail
          refine ⟨fun k hk => Below.heap_alloc _ _ k (Nat.lt_of_lt_of_le ((HSS.out k).1 hk) ZV2.out), ?_⟩
          refine Mix.mix_world fun V3 hV3 => ?_
          obtain ⟨tb3, htb3⟩ : ∃ z, z = V2.heap.size := ⟨_, rfl⟩
          have MV3 := hid (show Mem w0.heap.size w0 (σ.L w0.heap.size ++ ((boxR [] :: (p.L w0.heap.size σ.r.sb σ.g n ++ [])) ++ [blkR tb3 83 #[.int .i64 0, .int .i64 0, .int .i64 0, .int .i64 0, .int .i64 0, .int .i64 0, .int .i64 0, .int .i64 0, .int .i64 0, .int .i64 0]])) V3 from by rw [hV3, htb3]; exact (MV2.out.drewN y3).snoc _ ((Ch.refl (fun _ => False) (V2.drewN y3)).alloc _) (Blk.new (V2.drewN y3) _ _) (fun k hk => by rw [show k = _ from hk]; exact Nat.le_refl _))
          have ZV3 := hid (show W2.heap.size ≤ V3.heap.size from by rw [hV3]; exact Nat.le_trans ZV2.out ((Ch.refl (fun _ => False) V2).drewN y3 |>.alloc _).size)
          rw [← htb3]
          clear hV3 htb3
          have rc0 : V3.cell? ⟨tb3, 0, none⟩ = some (_) := MV3.out.lastBlk.cell 0
          have rcf0 := MV3.out.lastBlk.free 0
          have rc1 : V3.cell? ⟨tb3, 1, none⟩ = some (_) := MV3.out.lastBlk.cell 1
          have rcf1 := MV3.out.lastBlk.free 1
          have rc2 : V3.cell? ⟨tb3, 2, none⟩ = some (_) := MV3.out.lastBlk.cell 2
          have rcf2 := MV3.out.lastBlk.free 2
          have rc3 : V3.cell? ⟨tb3, 3, none⟩ = some (_) := MV3.out.lastBlk.cell 3
          have rcf3 := MV3.out.lastBlk.free 3
          have rc4 : V3.cell? ⟨tb3, 4, none⟩ = some (_) := MV3.out.lastBlk.cell 4
          have rcf4 := MV3.out.lastBlk.free 4
          have rc5 : V3.cell? ⟨tb3, 5, none⟩ = some (_) := MV3.out.lastBlk.cell 5
          have rcf5 := MV3.out.lastBlk.free 5
          have rc6 : V3.cell? ⟨tb3, 6, none⟩ = some (_) := MV3.out.lastBlk.cell 6
          have rcf6 := MV3.out.lastBlk.free 6
          have rc7 : V3.cell? ⟨tb3, 7, none⟩ = some (_) := MV3.out.lastBlk.cell 7
          have rcf7 := MV3.out.lastBlk.free 7
          have rc8 : V3.cell? ⟨tb3, 8, none⟩ = some (_) := MV3.out.lastBlk.cell 8
          have rcf8 := MV3.out.lastBlk.free 8
          have rc9 : V3.cell? ⟨tb3, 9, none⟩ = some (_) := MV3.out.lastBlk.cell 9
          have rcf9 := MV3.out.lastBlk.free 9
          repeat (first | (refine Mix.mix_q (by simp only [List.getElem?_toArray, List.getElem?_cons_zero, List.getElem?_cons_succ]; exact rfl) rfl ?_; go_big_quiet_step (fail); refine wpQuiet_nil ?_) | (refine Mix.mix_p (by simp only [List.getElem?_toArray, List.getElem?_cons_zero, List.getElem?_cons_succ]; exact rfl) rfl rfl ?_; go_big_quiet_step (fail); refine wpQuiet_nil ?_) | (refine Mix.mix_s (by simp only [List.getElem?_toArray, List.getElem?_cons_zero, List.getElem?_cons_succ]; exact rfl) rfl rfl ?_; go_big_quiet_step (fail); refine wpQuiet_nil ?_))
          refine Mix.mix_e (by simp only [List.getElem?_toArray, List.getElem?_cons_zero, List.getElem?_cons_succ]; exact rfl) rfl fun O3 hO3 => ?_
          obtain ⟨o3, rfl⟩ := hO3
          go_wp2_with fail
          repeat (first | (refine Mix.mix_q (by simp only [List.getElem?_toArray, List.getElem?_cons_zero, List.getElem?_cons_succ]; exact rfl) rfl ?_; go_big_quiet_step (fail); refine wpQuiet_nil ?_) | (refine Mix.mix_p (by simp only [List.getElem?_toArray, List.getElem?_cons_zero, List.getElem?_cons_succ]; exact rfl) rfl rfl ?_; go_big_quiet_step (fail); refine wpQuiet_nil ?_) | (refine Mix.mix_s (by simp only [List.getElem?_toArray, List.getElem?_cons_zero, List.getElem?_cons_succ]; exact rfl) rfl rfl ?_; go_big_quiet_step (fail); refine wpQuiet_nil ?_))
          intro m3
          refine Mix.wpX_done (by kernel_rfl) ?_
          intro u3
          have hMEM := (((((((((((((MV3.out.drewN o3).putLast 0 (.int .i64 y.l0)).putLast 1 (.int .i64 y.l1)).putLast 2 (.int .i64 y.l2)).putLast 3 (.int .i64 y.l3)).putLast 4 (.int .i64 y.l4)).putLast 5 (.int .i64 y.l5)).putLast 6 (.int .i64 y.l6)).putLast 7 (.int .i64 y.l7)).putLast 8 (.int .i64 y.l8)).putLast 9 (.int .i64 y.l9)).drewN m3).drewN u3)
          rw [show (((((((((((#[.int .i64 0, .int .i64 0, .int .i64 0, .int .i64 0, .int .i64 0, .int .i64 0, .int .i64 0, .int .i64 0, .int .i64 0, .int .i64 0] : Array Value).setIfInBounds 0 (.int .i64 y.l0)).setIfInBounds 1 (.int .i64 y.l1)).setIfInBounds 2 (.int .i64 y.l2)).setIfInBounds 3 (.int .i64 y.l3)).setIfInBounds 4 (.int .i64 y.l4)).setIfInBounds 5 (.int .i64 y.l5)).setIfInBounds 6 (.int .i64 y.l6)).setIfInBounds 7 (.int .i64 y.l7)).setIfInBounds 8 (.int .i64 y.l8)).setIfInBounds 9 (.int .i64 y.l9)) = (#[.int .i64 y.l0, .int .i64 y.l1, .int .i64 y.l2, .int .i64 y.l3, .int .i64 y.l4, .int .i64 y.l5, .int .i64 y.l6, .int .i64 y.l7, .int .i64 y.l8, .int .i64 y.l9] : Array Value) from by kernel_rfl] at hMEM
          exact ⟨tb3, by simp only [Act.put, List.setIfInBounds_toArray, List.set_cons_succ, List.set_cons_zero], hMEM⟩
        · refine Mix.mix_a (by simp only [List.getElem?_toArray, List.getElem?_cons_zero, List.getElem?_cons_succ]; exact rfl) rfl fun Y3 hY3 => ?_
          obtain ⟨y3, rfl⟩ := hY3
          go_wp2_with fail
          refine ⟨fun k hk => Below.heap_alloc _ _ k (Nat.lt_of_lt_of_le ((HSS.out k).1 hk) ZV1.out), ?_⟩
          refine Mix.mix_world fun V3 hV3 => ?_
          obtain ⟨tb3, htb3⟩ : ∃ z, z = V1.heap.size := ⟨_, rfl⟩
          have MV3 := hid (show Mem w0.heap.size w0 (σ.L w0.heap.size ++ ((boxR [] :: (p.L w0.heap.size σ.r.sb σ.g n ++ [])) ++ [blkR tb3 83 #[.int .i64 0, .int .i64 0, .int .i64 0, .int .i64 0, .int .i64 0, .int .i64 0, .int .i64 0, .int .i64 0, .int .i64 0, .int .i64 0]])) V3 from by rw [hV3, htb3]; exact (MV1.out.drewN y3).snoc _ ((Ch.refl (fun _ => False) (V1.drewN y3)).alloc _) (Blk.new (V1.drewN y3) _ _) (fun k hk => by rw [show k = _ from hk]; exact Nat.le_refl _))
          have ZV3 := hid (show W2.heap.size ≤ V3.heap.size from by rw [hV3]; exact Nat.le_trans ZV1.out ((Ch.refl (fun _ => False) V1).drewN y3 |>.alloc _).size)
          rw [← htb3]
          clear hV3 htb3
          intro m4
          refine Mix.wpX_world fun V4 hV4 => ?_
          have MV4 := hid (show Mem w0.heap.size w0 (σ.L w0.heap.size ++ ((boxR [] :: (p.L w0.heap.size σ.r.sb σ.g n ++ [])) ++ [blkR tb3 83 #[.int .i64 0, .int .i64 0, .int .i64 0, .int .i64 0, .int .i64 0, .int .i64 0, .int .i64 0, .int .i64 0, .int .i64 0, .int .i64 0]])) V4 from by rw [hV4]; exact MV3.out.drewN m4)
          have ZV4 := hid (show W2.heap.size ≤ V4.heap.size from by rw [hV4]; exact ZV3.out)
          clear hV4
          refine Mix.wpX_prefix (fuel := 0) (by kernel_rfl) [9, 11, 12] _ _ _ (by kernel_rfl) ?_
          refine Mix.mix_e (by simp only [List.getElem?_toArray, List.getElem?_cons_zero, List.getElem?_cons_succ]; exact rfl) rfl fun E5 hE5 => ?_
          obtain ⟨e5, rfl⟩ := hE5
          go_wp2_with fail
          refine (slayout_any (V4.drewN e5) (m_st (MV4.out.drewN e5)) HK.out.O.stf).mono ?_
          rintro e E5w ⟨rfl, hm⟩
          have hM5 := hid (((MV4.out.drewN e5)).keep hm)
          have hz5 := hid hm.size
          simp only [Ly.arr]
          clear hm
          go_wp2_with fail
          refine Mix.mix_world fun V5 hV5 => ?_
          have MV5 := hid (show Mem w0.heap.size w0 (σ.L w0.heap.size ++ ((boxR [] :: (p.L w0.heap.size σ.r.sb σ.g n ++ [])) ++ [blkR tb3 83 #[.int .i64 0, .int .i64 0, .int .i64 0, .int .i64 0, .int .i64 0, .int .i64 0, .int .i64 0, .int .i64 0, .int .i64 0, .int .i64 0]])) V5 from by rw [hV5]; exact hM5.out)
          have ZV5 := hid (show W2.heap.size ≤ V5.heap.size from by rw [hV5]; exact Nat.le_trans ZV4.out hz5.out)
          clear hV5
          have rc0 : V5.cell? ⟨tb3, 0, none⟩ = some (_) := MV5.out.lastBlk.cell 0
          have rcf0 := MV5.out.lastBlk.free 0
          have rc1 : V5.cell? ⟨tb3, 1, none⟩ = some (_) := MV5.out.lastBlk.cell 1
          have rcf1 := MV5.out.lastBlk.free 1
          have rc2 : V5.cell? ⟨tb3, 2, none⟩ = some (_) := MV5.out.lastBlk.cell 2
          have rcf2 := MV5.out.lastBlk.free 2
          have rc3 : V5.cell? ⟨tb3, 3, none⟩ = some (_) := MV5.out.lastBlk.cell 3
          have rcf3 := MV5.out.lastBlk.free 3
          have rc4 : V5.cell? ⟨tb3, 4, none⟩ = some (_) := MV5.out.lastBlk.cell 4
          have rcf4 := MV5.out.lastBlk.free 4
          have rc5 : V5.cell? ⟨tb3, 5, none⟩ = some (_) := MV5.out.lastBlk.cell 5
          have rcf5 := MV5.out.lastBlk.free 5
          have rc6 : V5.cell? ⟨tb3, 6, none⟩ = some (_) := MV5.out.lastBlk.cell 6
          have rcf6 := MV5.out.lastBlk.free 6
          have rc7 : V5.cell? ⟨tb3, 7, none⟩ = some (_) := MV5.out.lastBlk.cell 7
          have rcf7 := MV5.out.lastBlk.free 7
          have rc8 : V5.cell? ⟨tb3, 8, none⟩ = some (_) := MV5.out.lastBlk.cell 8
          have rcf8 := MV5.out.lastBlk.free 8
          have rc9 : V5.cell? ⟨tb3, 9, none⟩ = some (_) := MV5.out.lastBlk.cell 9
          have rcf9 := MV5.out.lastBlk.free 9
          repeat (first | (refine Mix.mix_q (by simp only [List.getElem?_toArray, List.getElem?_cons_zero, List.getElem?_cons_succ]; exact rfl) rfl ?_; go_big_quiet_step (fail); refine wpQuiet_nil ?_) | (refine Mix.mix_p (by simp only [List.getElem?_toArray, List.getElem?_cons_zero, List.getElem?_cons_succ]; exact rfl) rfl rfl ?_; go_big_quiet_step (fail); refine wpQuiet_nil ?_) | (refine Mix.mix_s (by simp only [List.getElem?_toArray, List.getElem?_cons_zero, List.getElem?_cons_succ]; exact rfl) rfl rfl ?_; go_big_quiet_step (fail); refine wpQuiet_nil ?_))
          refine Mix.mix_e (by simp only [List.getElem?_toArray, List.getElem?_cons_zero, List.getElem?_cons_succ]; exact rfl) rfl fun O5 hO5 => ?_
          obtain ⟨o5, rfl⟩ := hO5
          go_wp2_with fail
          repeat (first | (refine Mix.mix_q (by simp only [List.getElem?_toArray, List.getElem?_cons_zero, List.getElem?_cons_succ]; exact rfl) rfl ?_; go_big_quiet_step (fail); refine wpQuiet_nil ?_) | (refine Mix.mix_p (by simp only [List.getElem?_toArray, List.getElem?_cons_zero, List.getElem?_cons_succ]; exact rfl) rfl rfl ?_; go_big_quiet_step (fail); refine wpQuiet_nil ?_) | (refine Mix.mix_s (by simp only [List.getElem?_toArray, List.getElem?_cons_zero, List.getElem?_cons_succ]; exact rfl) rfl rfl ?_; go_big_quiet_step (fail); refine wpQuiet_nil ?_))
          intro m5
          refine Mix.wpX_done (by kernel_rfl) ?_
          intro u5
          have hMEM := (((((((((((((MV5.out.drewN o5).putLast 0 (.int .i64 y.l0)).putLast 1 (.int .i64 y.l1)).putLast 2 (.int .i64 y.l2)).putLast 3 (.int .i64 y.l3)).putLast 4 (.int .i64 y.l4)).putLast 5 (.int .i64 y.l5)).putLast 6 (.int .i64 y.l6)).putLast 7 (.int .i64 y.l7)).putLast 8 (.int .i64 y.l8)).putLast 9 (.int .i64 y.l9)).drewN m5).drewN u5)
          rw [show (((((((((((#[.int .i64 0, .int .i64 0, .int .i64 0, .int .i64 0, .int .i64 0, .int .i64 0, .int .i64 0, .int .i64 0, .int .i64 0, .int .i64 0] : Array Value).setIfInBounds 0 (.int .i64 y.l0)).setIfInBounds 1 (.int .i64 y.l1)).setIfInBounds 2 (.int .i64 y.l2)).setIfInBounds 3 (.int .i64 y.l3)).setIfInBounds 4 (.int .i64 y.l4)).setIfInBounds 5 (.int .i64 y.l5)).setIfInBounds 6 (.int .i64 y.l6)).setIfInBounds 7 (.int .i64 y.l7)).setIfInBounds 8 (.int .i64 y.l8)).setIfInBounds 9 (.int .i64 y.l9)) = (#[.int .i64 y.l0, .int .i64 y.l1, .int .i64 y.l2, .int .i64 y.l3, .int .i64 y.l4, .int .i64 y.l5, .int .i64 y.l6, .int .i64 y.l7, .int .i64 y.l8, .int .i64 y.l9] : Array Value) from by kernel_rfl] at hMEM
          exact ⟨tb3, by simp only [Act.put, List.setIfInBounds_toArray, List.set_cons_succ, List.set_cons_zero], hMEM⟩
      · refine Mix.mix_a (by simp only [List.getElem?_toArray, List.getElem?_cons_zero, List.getElem?_cons_succ]; exact rfl) rfl fun Y3 hY3 => ?_
        obtain ⟨y3, rfl⟩ := hY3
        go_wp2_with fail
        refine ⟨fun k hk => Below.heap_alloc _ _ k (Nat.lt_of_lt_of_le ((HSS.out k).1 hk) ZV0.out), ?_⟩
        refine Mix.mix_world fun V3 hV3 => ?_
        obtain ⟨tb3, htb3⟩ : ∃ z, z = V0.heap.size := ⟨_, rfl⟩
        have MV3 := hid (show Mem w0.heap.size w0 (σ.L w0.heap.size ++ ((boxR [] :: (p.L w0.heap.size σ.r.sb σ.g n ++ [])) ++ [blkR tb3 83 #[.int .i64 0, .int .i64 0, .int .i64 0, .int .i64 0, .int .i64 0, .int .i64 0, .int .i64 0, .int .i64 0, .int .i64 0, .int .i64 0]])) V3 from by rw [hV3, htb3]; exact (MV0.out.drewN y3).snoc _ ((Ch.refl (fun _ => False) (V0.drewN y3)).alloc _) (Blk.new (V0.drewN y3) _ _) (fun k hk => by rw [show k = _ from hk]; exact Nat.le_refl _))
        have ZV3 := hid (show W2.heap.size ≤ V3.heap.size from by rw [hV3]; exact Nat.le_trans ZV0.out ((Ch.refl (fun _ => False) V0).drewN y3 |>.alloc _).size)
        rw [← htb3]
        clear hV3 htb3
        intro m4
        refine Mix.wpX_world fun V4 hV4 => ?_
        have MV4 := hid (show Mem w0.heap.size w0 (σ.L w0.heap.size ++ ((boxR [] :: (p.L w0.heap.size σ.r.sb σ.g n ++ [])) ++ [blkR tb3 83 #[.int .i64 0, .int .i64 0, .int .i64 0, .int .i64 0, .int .i64 0, .int .i64 0, .int .i64 0, .int .i64 0, .int .i64 0, .int .i64 0]])) V4 from by rw [hV4]; exact MV3.out.drewN m4)
        have ZV4 := hid (show W2.heap.size ≤ V4.heap.size from by rw [hV4]; exact ZV3.out)
        clear hV4
        refine Mix.wpX_prefix (fuel := 0) (by kernel_rfl) [4, 9, 11, 12] _ _ _ (by kernel_rfl) ?_
        refine Mix.mix_a (by simp only [List.getElem?_toArray, List.getElem?_cons_zero, List.getElem?_cons_succ]; exact rfl) rfl fun Q6 hQ6 => ?_
        obtain ⟨q6, rfl⟩ := hQ6
        go_wp2_with fail
        refine (sbank_any (V4.drewN q6) (m_st (MV4.out.drewN q6)) HK.out.O.stf).mono ?_
        rintro e w' ⟨rfl, rfl⟩
        go_wp2_with fail
        refine ⟨fun k hk => ((Ch.refl (fun _ => False) V4).drewN q6).block k (Nat.lt_of_lt_of_le ((HSS.out k).1 hk) ZV4.out) id, ?_⟩
        refine Mix.mix_world fun V6 hV6 => ?_
        have MV6 := hid (show Mem w0.heap.size w0 (σ.L w0.heap.size ++ ((boxR [] :: (p.L w0.heap.size σ.r.sb σ.g n ++ [])) ++ [blkR tb3 83 #[.int .i64 0, .int .i64 0, .int .i64 0, .int .i64 0, .int .i64 0, .int .i64 0, .int .i64 0, .int .i64 0, .int .i64 0, .int .i64 0]])) V6 from by rw [hV6]; exact MV4.out.drewN q6)
        have ZV6 := hid (show W2.heap.size ≤ V6.heap.size from by rw [hV6]; exact ZV4.out)
        clear hV6
        refine Mix.mix_e (by simp only [List.getElem?_toArray, List.getElem?_cons_zero, List.getElem?_cons_succ]; exact rfl) rfl fun E5 hE5 => ?_
        obtain ⟨e5, rfl⟩ := hE5
        go_wp2_with fail
        refine (slayout_any (V6.drewN e5) (m_st (MV6.out.drewN e5)) HK.out.O.stf).mono ?_
        rintro e E5w ⟨rfl, hm⟩
        have hM5 := hid (((MV6.out.drewN e5)).keep hm)
        have hz5 := hid hm.size
        simp only [Ly.arr]
        clear hm
        go_wp2_with fail
        refine Mix.mix_world fun V5 hV5 => ?_
        have MV5 := hid (show Mem w0.heap.size w0 (σ.L w0.heap.size ++ ((boxR [] :: (p.L w0.heap.size σ.r.sb σ.g n ++ [])) ++ [blkR tb3 83 #[.int .i64 0, .int .i64 0, .int .i64 0, .int .i64 0, .int .i64 0, .int .i64 0, .int .i64 0, .int .i64 0, .int .i64 0, .int .i64 0]])) V5 from by rw [hV5]; exact hM5.out)
        have ZV5 := hid (show W2.heap.size ≤ V5.heap.size from by rw [hV5]; exact Nat.le_trans ZV6.out hz5.out)
        clear hV5
        have rc0 : V5.cell? ⟨tb3, 0, none⟩ = some (_) := MV5.out.lastBlk.cell 0
        have rcf0 := MV5.out.lastBlk.free 0
        have rc1 : V5.cell? ⟨tb3, 1, none⟩ = some (_) := MV5.out.lastBlk.cell 1
        have rcf1 := MV5.out.lastBlk.free 1
        have rc2 : V5.cell? ⟨tb3, 2, none⟩ = some (_) := MV5.out.lastBlk.cell 2
        have rcf2 := MV5.out.lastBlk.free 2
        have rc3 : V5.cell? ⟨tb3, 3, none⟩ = some (_) := MV5.out.lastBlk.cell 3
        have rcf3 := MV5.out.lastBlk.free 3
        have rc4 : V5.cell? ⟨tb3, 4, none⟩ = some (_) := MV5.out.lastBlk.cell 4
        have rcf4 := MV5.out.lastBlk.free 4
        have rc5 : V5.cell? ⟨tb3, 5, none⟩ = some (_) := MV5.out.lastBlk.cell 5
        have rcf5 := MV5.out.lastBlk.free 5
        have rc6 : V5.cell? ⟨tb3, 6, none⟩ = some (_) := MV5.out.lastBlk.cell 6
        have rcf6 := MV5.out.lastBlk.free 6
        have rc7 : V5.cell? ⟨tb3, 7, none⟩ = some (_) := MV5.out.lastBlk.cell 7
        have rcf7 := MV5.out.lastBlk.free 7
        have rc8 : V5.cell? ⟨tb3, 8, none⟩ = some (_) := MV5.out.lastBlk.cell 8
        have rcf8 := MV5.out.lastBlk.free 8
        have rc9 : V5.cell? ⟨tb3, 9, none⟩ = some (_) := MV5.out.lastBlk.cell 9
        have rcf9 := MV5.out.lastBlk.free 9
        repeat (first | (refine Mix.mix_q (by simp only [List.getElem?_toArray, List.getElem?_cons_zero, List.getElem?_cons_succ]; exact rfl) rfl ?_; go_big_quiet_step (fail); refine wpQuiet_nil ?_) | (refine Mix.mix_p (by simp only [List.getElem?_toArray, List.getElem?_cons_zero, List.getElem?_cons_succ]; exact rfl) rfl rfl ?_; go_big_quiet_step (fail); refine wpQuiet_nil ?_) | (refine Mix.mix_s (by simp only [List.getElem?_toArray, List.getElem?_cons_zero, List.getElem?_cons_succ]; exact rfl) rfl rfl ?_; go_big_quiet_step (fail); refine wpQuiet_nil ?_))
        refine Mix.mix_e (by simp only [List.getElem?_toArray, List.getElem?_cons_zero, List.getElem?_cons_succ]; exact rfl) rfl fun O5 hO5 => ?_
        obtain ⟨o5, rfl⟩ := hO5
        go_wp2_with fail
        repeat (first | (refine Mix.mix_q (by simp only [List.getElem?_toArray, List.getElem?_cons_zero, List.getElem?_cons_succ]; exact rfl) rfl ?_; go_big_quiet_step (fail); refine wpQuiet_nil ?_) | (refine Mix.mix_p (by simp only [List.getElem?_toArray, List.getElem?_cons_zero, List.getElem?_cons_succ]; exact rfl) rfl rfl ?_; go_big_quiet_step (fail); refine wpQuiet_nil ?_) | (refine Mix.mix_s (by simp only [List.getElem?_toArray, List.getElem?_cons_zero, List.getElem?_cons_succ]; exact rfl) rfl rfl ?_; go_big_quiet_step (fail); refine wpQuiet_nil ?_))
        intro m5
        refine Mix.wpX_done (by kernel_rfl) ?_
        intro u5
        have hMEM := (((((((((((((MV5.out.drewN o5).putLast 0 (.int .i64 y.l0)).putLast 1 (.int .i64 y.l1)).putLast 2 (.int .i64 y.l2)).putLast 3 (.int .i64 y.l3)).putLast 4 (.int .i64 y.l4)).putLast 5 (.int .i64 y.l5)).putLast 6 (.int .i64 y.l6)).putLast 7 (.int .i64 y.l7)).putLast 8 (.int .i64 y.l8)).putLast 9 (.int .i64 y.l9)).drewN m5).drewN u5)
        rw [show (((((((((((#[.int .i64 0, .int .i64 0, .int .i64 0, .int .i64 0, .int .i64 0, .int .i64 0, .int .i64 0, .int .i64 0, .int .i64 0, .int .i64 0] : Array Value).setIfInBounds 0 (.int .i64 y.l0)).setIfInBounds 1 (.int .i64 y.l1)).setIfInBounds 2 (.int .i64 y.l2)).setIfInBounds 3 (.int .i64 y.l3)).setIfInBounds 4 (.int .i64 y.l4)).setIfInBounds 5 (.int .i64 y.l5)).setIfInBounds 6 (.int .i64 y.l6)).setIfInBounds 7 (.int .i64 y.l7)).setIfInBounds 8 (.int .i64 y.l8)).setIfInBounds 9 (.int .i64 y.l9)) = (#[.int .i64 y.l0, .int .i64 y.l1, .int .i64 y.l2, .int .i64 y.l3, .int .i64 y.l4, .int .i64 y.l5, .int .i64 y.l6, .int .i64 y.l7, .int .i64 y.l8, .int .i64 y.l9] : Array Value) from by kernel_rfl] at hMEM
        exact ⟨tb3, by simp only [Act.put, List.setIfInBounds_toArray, List.set_cons_succ, List.set_cons_zero], hMEM⟩
    · clear q0 hSp1 lp2 HSS
      rintro a' w3 ⟨ab, rfl, hM⟩
      simp only [Act.put, List.setIfInBounds_toArray, List.set_cons_succ, List.set_cons_zero]
      have hI0 : AnI w0 p.g σ.p ab n y 0 0 w3 σ [] p [s.data.toList] RsV.zero := ⟨hM, HP.out.K, HP.out.G, rfl, rfl, HP.out.an, by have := HP.out.nl; omega, rfl, by rw [HP.out.lg]; exact Nat.le_refl _, HP.out.f, HP.out.cl, HP.out.y0⟩
      obtain ⟨pg, hpg⟩ : ∃ z, z = p.g := ⟨_, rfl⟩
      obtain ⟨bp, hbp⟩ : ∃ z, z = σ.p := ⟨_, rfl⟩
      rw [← hpg, ← hbp] at hI0
      rw [← hpg, ← hbp]
      have HI0 := hid (show ∃ σ bs p ts x, AnI w0 pg bp ab n y 0 0 w3 σ bs p ts x from ⟨_, _, _, _, _, hI0⟩)
      clear hI0 hM hpg hbp HP HK M2
      go_wp2_with fail
      go_loopw [10] (fun i W => ∃ k σ bs p ts x, k ≤ nn ∧ i = .int .i64 (k : Int) ∧ AnI w0 pg bp ab n y (cnt6 (l.take k)) k W σ bs p ts x) (fun i _ => nn - (intOf i).toNat)
      case atStart =>
        obtain ⟨σ, bs, p, ts, x, hi⟩ := HI0.out
        exact ⟨0, σ, bs, p, ts, x, Nat.zero_le _, rfl, hi⟩
      case round =>
        obtain ⟨k, σ, bs, p, ts, x, hk, rfl, hI⟩ := hrel
        have HI := hid hI
        clear hI HI0
        by_cases hlt : k < nn
        · have d1 : decide (k < nn) = true := decide_eq_true hlt
          have d1' : decide ((k : Int) < (nn : Int)) = true := decide_eq_true (by omega)
          obtain ⟨z, hz⟩ : ∃ z, l[k]? = some z := ⟨_, List.getElem?_eq_getElem (by rw [HE.out.1]; exact hlt)⟩
          obtain ⟨b, off, hab, hbl, hcc⟩ := HE.out.2.2 (by omega)
          subst hab
          have hzm := List.mem_of_getElem? hz
          have HZ6 := hid (HS6.out z hzm)
          have HZO := hid (HE.out.2.1 z hzm)
          have HC6 := hid (cnt6_take hz)
          have HCL := hid (Nat.le_trans (cnt6_le l (k + 1)) HS7.out)
          have hcell : ∀ j v, z.cells[j]? = some v → wr.cell? ⟨b, off + (k * 10 + j), none⟩ = some v := fun j v hj => (below_cell HI.out.M.bel (p := ⟨b, _, none⟩) hbl).trans (hcc k j z v hz hj)
          have c0 : wr.cell? ⟨b, off + k * 10, none⟩ = some (.int .u8 z.d) := hcell 0 _ rfl
          have c1 : wr.cell? ⟨b, off + k * 10 + 1, none⟩ = some (.int .u8 z.op.k) := hcell 1 _ rfl
          have c2 : wr.cell? ⟨b, off + k * 10 + 2, none⟩ = some (.int .i64 z.op.sl) := hcell 2 _ rfl
          have c3 : wr.cell? ⟨b, off + k * 10 + 3, none⟩ = some (.int .i64 z.op.at') := hcell 3 _ rfl
          have c4 : wr.cell? ⟨b, off + k * 10 + 4, none⟩ = some (.int .i64 z.op.n) := hcell 4 _ rfl
          have c5 : wr.cell? ⟨b, off + k * 10 + 5, none⟩ = some (.int .u32 z.op.id) := hcell 5 _ rfl
          have c6 : wr.cell? ⟨b, off + k * 10 + 6, none⟩ = some (.int .u8 z.op.g) := hcell 6 _ rfl
          have c7 : wr.cell? ⟨b, off + k * 10 + 7, none⟩ = some (.string z.op.s) := hcell 7 _ rfl
          have c8 : wr.cell? ⟨b, off + k * 10 + 8, none⟩ = some (.string z.s) := hcell 8 _ rfl
          have c9 : wr.cell? ⟨b, off + k * 10 + 9, none⟩ = some (.slice z.ma z.mn z.mc) := hcell 9 _ rfl
          have hg := HI.out.hg
          subst hg
          have hp := HI.out.hp
          subst hp
          clear hcell hcc hz hzm
          by_cases hge : 6 ≤ z.d.tmod 8
          · have g1 : decide (6 ≤ z.d.tmod 8) = true := decide_eq_true hge
            by_cases h6 : z.d.tmod 8 = 6
            · have g2 : (z.d.tmod 8 == 6) = true := by rw [beq_iff_eq]; exact h6
              have H6 := hid h6
              clear h6 hge
              go_wp2_with fail
              refine (other6_any HI.out.M HI.out.K (by have := HI.out.lg; omega) z HZO.out H6.out HZ6.out.1 HZ6.out.2 (by rw [HI.out.an]; have := HI.out.nl; have q6 := HC6.out; have := HCL.out; rw [if_pos H6.out] at q6; omega) (by rw [HI.out.an]; decide) (by have := HI.out.tl; have q6 := HC6.out; have := HCL.out; rw [if_pos H6.out] at q6; omega)).mono ?_
              rintro e w4 ⟨rfl, ys, rv', r1, lv', mv, hM4, hK4, hyl, _⟩
              have hI4 : AnI w0 p.g σ.p ab n y (cnt6 (l.take (k + 1))) (k + 1) w4 (σ.pub ys rv' r1 lv' 2) bs (p.pub z mv r1) (ts ++ [z.s.data.toList]) x := {
                M := hM4
                K := hK4
                G := HI.out.G.pub HI.out.K ys rv' r1 lv' 2 _
                hg := rfl
                hp := rfl
                an := HI.out.an
                nl := by have := HI.out.nl; rw [HC6.out, if_pos H6.out]; show (σ.ns ++ ys).length ≤ _; rw [List.length_append]; omega
                tl := by have := HI.out.tl; rw [HC6.out, if_pos H6.out, List.length_append, List.length_singleton]; omega
                lg := by have := HI.out.lg; show (σ.s.store 2 1 (σ.rs.length : Int)).lg.length ≤ _; rw [store_len]; omega
                f := HI.out.f
                cl := HI.out.cl
                y0 := HI.out.y0 }
              have HI4 := hid hI4
              clear hM4 hK4 hyl hI4 c0 c1 c2 c3 c4 c5 c6 c7 c8 c9
              go_wp2_with fail
              go_roundw
              case rel => exact ⟨k + 1, _, _, _, _, _, hlt, by go_num, HI4.out⟩
              case measure => simp [intOf]; omega
            · have g2 : (z.d.tmod 8 == 6) = false := by rw [beq_eq_false_iff_ne]; exact h6
              have HIn := hid (HI.out.next (Ch.refl _ wr))
              have HC6' := hid (show cnt6 (l.take (k + 1)) = cnt6 (l.take k) from by rw [HC6.out, if_neg h6, Nat.add_zero])
              clear h6 hge
              go_wp2_with fail
              go_roundw
              case rel => exact ⟨k + 1, _, _, _, _, _, hlt, by go_num, by rw [HC6'.out]; exact HIn.out⟩
              case measure => simp [intOf]; omega
          · have g1 : decide (6 ≤ z.d.tmod 8) = false := decide_eq_false hge
            have HC6' := hid (show cnt6 (l.take (k + 1)) = cnt6 (l.take k) from by rw [HC6.out, if_neg (by omega), Nat.add_zero])
            clear hge
            go_wp2_with fail
            refine (lclean_any z.op HZO.out.op n hn4 wr).mono ?_
            rintro e w4 ⟨op', bb, rfl, hc4, hcase⟩
            have HC4 := hid hc4
            have HIn := hid (HI.out.next hc4)
            clear hc4 c0 c1 c2 c3 c4 c5 c6 c7 c8 c9
            rcases hcase with ⟨rfl, cc, rfl, hsm⟩ | ⟨rfl, hn0⟩
            · simp only [OpV.v]
              go_upto_region 14 with fail
              refine at_world fun W3 hW3 => ?_
              obtain ⟨ob, hob⟩ : ∃ z, z = w4.heap.size := ⟨_, rfl⟩
              have M3 := hid (show Mem w0.heap.size w0 (σ.L w0.heap.size ++ (boxR bs :: ((p.L w0.heap.size σ.r.sb σ.g n ++ [blkR ab 83 y.arr]) ++ [blkR ob 26 #[.int .u8 cc.op.k, .int .i64 cc.op.sl, .int .i64 cc.op.at', .int .i64 cc.op.n, .int .u32 cc.op.id, .int .u8 cc.op.g, .string cc.op.s]]))) W3 from by rw [hW3, hob]; exact Mem.snoc (R := boxR bs :: (p.L w0.heap.size σ.r.sb σ.g n ++ [blkR ab 83 y.arr])) HIn.out.M _ ((Ch.refl (fun _ => False) w4).alloc _) (Blk.new w4 _ _) (fun k hk => by rw [show k = _ from hk]; exact Nat.le_refl _))
              have HFW := hid (show AnI w0 p.g σ.p ab n y (cnt6 (l.take k)) (k + 1) W3 σ bs p ts x from by rw [hW3]; exact HI.out.next (HC4.out.alloc _))
              rw [← hob]
              clear hW3 hob
              have OB3 := hid (show Blk W3 ob 26 #[.int .u8 cc.op.k, .int .i64 cc.op.sl, .int .i64 cc.op.at', .int .i64 cc.op.n, .int .u32 cc.op.id, .int .u8 cc.op.g, .string cc.op.s] from M3.out.lastBc)
              have o0 : W3.cell? ⟨ob, 0, none⟩ = some (.int .u8 cc.op.k) := OB3.out.cell 0
              go_cut [100] from 89 to 100 (fun s w => W3 = w ∧ ((s = .bool true ∧ cc.op.k ≠ 5 ∧ cc.op.k ≠ 13) ∨ (s = .bool false ∧ (cc = .acq ∨ ∃ kr, cc = .rel kr ∧ kr < n))))
              case first =>
                rcases cop_kind cc with hcq | ⟨kr, hcr⟩ | ⟨hk5, hk13⟩
                · have f1 : (cc.op.k != 5) = false := by rw [hcq]; rfl
                  have HQ := hid hcq
                  clear hcq
                  go_wp2_with fail
                  go_meet
                  case rel => exact ⟨rfl, .inr ⟨rfl, .inl HQ.out⟩⟩
                · have f1 : (cc.op.k != 5) = true := by rw [hcr]; rfl
                  have f2 : (cc.op.k != 13) = false := by rw [hcr]; rfl
                  have HQ := hid (show cc = .rel kr ∧ kr < n from ⟨hcr, by rw [hcr] at hsm; exact hsm⟩)
                  clear hcr
                  go_wp2_with fail
                  go_meet
                  case rel => exact ⟨rfl, .inr ⟨rfl, .inr ⟨kr, HQ.out⟩⟩⟩
                · have f1 : (cc.op.k != 5) = true := by rw [bne_iff_ne]; exact hk5
                  have f2 : (cc.op.k != 13) = true := by rw [bne_iff_ne]; exact hk13
                  have HQ := hid (show cc.op.k ≠ 5 ∧ cc.op.k ≠ 13 from ⟨hk5, hk13⟩)
                  clear hk5 hk13
                  go_wp2_with fail
                  go_meet
                  case rel => exact ⟨rfl, .inl ⟨rfl, HQ.out⟩⟩
              case rest =>
                obtain ⟨hwc, hcut⟩ := hcut
                subst hwc
                clear o0 OB3
                rcases hcut with ⟨rfl, _, _⟩ | ⟨rfl, hcc⟩
                · go_wp2_with fail
                  go_roundw
                  case rel => exact ⟨k + 1, _, _, _, _, _, hlt, by go_num, by rw [HC6'.out]; exact HFW.out⟩
                  case measure => simp [intOf]; omega
                · have HCC := hid hcc
                  have HBZ := hid (show σ.r.busy = false from HI.out.G.1)
                  have HLG := hid (show σ.s.lg.length < 700000 from by have := HI.out.lg; omega)
                  clear hcc
                  go_wp2_with fail
                  have BK3 := hid (m_bk M3.out)
                  refine (len_any w0.heap.size σ.p σ.cb σ.lv σ.s W3 BK3.out).mono ?_
                  rintro e w' ⟨rfl, rfl⟩
                  go_wp2_with fail
                  refine at_world fun W4 hW4 => ?_
                  have M4 := hid (show Mem w0.heap.size w0 (σ.L w0.heap.size ++ (boxR bs :: ((p.L w0.heap.size σ.r.sb σ.g n ++ [blkR ab 83 y.arr]) ++ [blkR ob 26 #[.int .u8 cc.op.k, .int .i64 cc.op.sl, .int .i64 cc.op.at', .int .i64 cc.op.n, .int .u32 cc.op.id, .int .u8 cc.op.g, .string cc.op.s]]))) W4 from by rw [hW4]; exact M3.out)
                  clear hW4 M3 BK3
                  have q1 : W4.cell? ⟨p.g, 1, none⟩ = some (.pointer (some ⟨σ.g, 0, none⟩)) := Blk.cell (M4.out.each 10 (blkR p.g 51 (p.cells σ.r.sb σ.g n)) rfl) 1
                  have lp4 : p.g < W4.heap.size := Blk.lt (M4.out.each 10 (blkR p.g 51 (p.cells σ.r.sb σ.g n)) rfl)
                  have OB4 := hid (show Blk W4 ob 26 #[.int .u8 cc.op.k, .int .i64 cc.op.sl, .int .i64 cc.op.at', .int .i64 cc.op.n, .int .u32 cc.op.id, .int .u8 cc.op.g, .string cc.op.s] from M4.out.lastBc)
                  have o0 : W4.cell? ⟨ob, 0, none⟩ = some (.int .u8 cc.op.k) := OB4.out.cell 0
                  have o1 : W4.cell? ⟨ob, 1, none⟩ = some (.int .i64 cc.op.sl) := OB4.out.cell 1
                  have o2 : W4.cell? ⟨ob, 2, none⟩ = some (.int .i64 cc.op.at') := OB4.out.cell 2
                  have o3 : W4.cell? ⟨ob, 3, none⟩ = some (.int .i64 cc.op.n) := OB4.out.cell 3
                  have o4 : W4.cell? ⟨ob, 4, none⟩ = some (.int .u32 cc.op.id) := OB4.out.cell 4
                  have o5 : W4.cell? ⟨ob, 5, none⟩ = some (.int .u8 cc.op.g) := OB4.out.cell 5
                  have o6 : W4.cell? ⟨ob, 6, none⟩ = some (.string cc.op.s) := OB4.out.cell 6
                  obtain ⟨S, hS⟩ : ∃ S : Nat → Prop, ∀ k, S k ↔ (k = p.g ∨ k = ob) := ⟨_, fun _ => Iff.rfl⟩
                  have hSp1 : Mix.Has S p.g := (hS _).2 (.inl rfl)
                  have hSp2 : Mix.Has S ob := (hS _).2 (.inr rfl)
                  have HSS := hid hS
                  clear hS
                  refine Mix.wp_region_XJ S (fun i => ([1, 1, 1, 4, 4, 2, 1, 1, 1, 1, 3, 0, 2, 0] : List Nat).getD i 0) (fun a0 a' w' => ∃ rb σ2 bs2 x v, a' = (((((((((((((a0.put (some 104) (.pointer (some ⟨p.g, 0, none⟩))).put (some 105) (.pointer (some ⟨p.g, 0, none⟩))).put (some 106) (.pointer (some ⟨p.g, 1, none⟩))).put (some 107) (.pointer (some ⟨σ.g, 0, none⟩))).put (some 108) (.agg #[.int .u8 cc.op.k, .int .i64 cc.op.sl, .int .i64 cc.op.at', .int .i64 cc.op.n, .int .u32 cc.op.id, .int .u8 cc.op.g, .string cc.op.s])).put (some 109) (.tuple #[v, (.agg #[.int .i64 x.er, .int .i64 x.rev, .int .i64 x.sl, .int .i64 x.at', .int .u8 x.g, .string x.s, .int .i64 x.b, .int .i64 x.r, .int .i64 x.l, .int .u8 x.ik, .int .i64 x.fr, .int .i64 x.to, .slice none 0 0]), .bool true])).put (some 103) (.tuple #[v, (.agg #[.int .i64 x.er, .int .i64 x.rev, .int .i64 x.sl, .int .i64 x.at', .int .u8 x.g, .string x.s, .int .i64 x.b, .int .i64 x.r, .int .i64 x.l, .int .u8 x.ik, .int .i64 x.fr, .int .i64 x.to, .slice none 0 0]), .bool true])).put (some 110) v).put (some 111) (.agg #[.int .i64 x.er, .int .i64 x.rev, .int .i64 x.sl, .int .i64 x.at', .int .u8 x.g, .string x.s, .int .i64 x.b, .int .i64 x.r, .int .i64 x.l, .int .u8 x.ik, .int .i64 x.fr, .int .i64 x.to, .slice none 0 0])).put (some 112) (.bool true)).put (some 15) (.pointer (some ⟨rb, 0, none⟩))).put (some 14) v).put (some 16) (.bool true)) ∧ Mem w0.heap.size w0 (σ2.L w0.heap.size ++ ((boxR bs2 :: ((p.L w0.heap.size σ.r.sb σ.g n ++ [blkR ab 83 y.arr]) ++ [blkR ob 26 #[.int .u8 cc.op.k, .int .i64 cc.op.sl, .int .i64 cc.op.at', .int .i64 cc.op.n, .int .u32 cc.op.id, .int .u8 cc.op.g, .string cc.op.s]])) ++ [blkR rb 41 #[.int .i64 x.er, .int .i64 x.rev, .int .i64 x.sl, .int .i64 x.at', .int .u8 x.g, .string x.s, .int .i64 x.b, .int .i64 x.r, .int .i64 x.l, .int .u8 x.ik, .int .i64 x.fr, .int .i64 x.to, .slice none 0 0]])) w' ∧ Same σ σ2 ∧ RnOk σ2 y n n ts none ∧ PgAt σ2 bs2 n n ts (.fin x) ∧ AnnEnd σ n cc σ2 x ∧ σ2.s.lg.length ≤ σ.s.lg.length + 200) (by kernel_rfl) ?_ ?_
                  · refine Mix.wpX_prefix (fuel := 9) (by kernel_rfl) [0, 1, 2, 3, 4] _ _ _ (by kernel_rfl) ?_
                    repeat (first | (refine Mix.mix_q (by simp only [List.getElem?_toArray, List.getElem?_cons_zero, List.getElem?_cons_succ]; exact rfl) rfl ?_; go_big_quiet_step (fail); refine wpQuiet_nil ?_) | (refine Mix.mix_p (by simp only [List.getElem?_toArray, List.getElem?_cons_zero, List.getElem?_cons_succ]; exact rfl) rfl rfl ?_; go_big_quiet_step (fail); refine wpQuiet_nil ?_) | (refine Mix.mix_s (by simp only [List.getElem?_toArray, List.getElem?_cons_zero, List.getElem?_cons_succ]; exact rfl) rfl rfl ?_; go_big_quiet_step (fail); refine wpQuiet_nil ?_))
                    intro m0
                    refine Mix.wpX_world fun V0 hV0 => ?_
                    have MV0 := hid (show Mem w0.heap.size w0 (σ.L w0.heap.size ++ (boxR bs :: ((p.L w0.heap.size σ.r.sb σ.g n ++ [blkR ab 83 y.arr]) ++ [blkR ob 26 #[.int .u8 cc.op.k, .int .i64 cc.op.sl, .int .i64 cc.op.at', .int .i64 cc.op.n, .int .u32 cc.op.id, .int .u8 cc.op.g, .string cc.op.s]]))) V0 from by rw [hV0]; exact M4.out.drewN m0)
                    clear hV0
                    refine Mix.wpX_two 5 10 (by kernel_rfl) ?_ ?_
                    · refine Mix.mix_e (by simp only [List.getElem?_toArray, List.getElem?_cons_zero, List.getElem?_cons_succ]; exact rfl) rfl fun E2 hE2 => ?_
                      obtain ⟨e2, rfl⟩ := hE2
                      go_wp2_with fail
                      refine (fin_ann (MV0.out.drewN e2) HI.out.K HBZ.out HLG.out HCC.out).mono ?_
                      rintro e E2w ⟨σ2, bs2, x, v, phs, rfl, hm, hS, hK2, hG2, hE, hll⟩
                      have hM2 := hid (show Mem w0.heap.size w0 (σ2.L w0.heap.size ++ ((boxR bs2 :: ((p.L w0.heap.size σ.r.sb σ.g n ++ [blkR ab 83 y.arr]) ++ [blkR ob 26 #[.int .u8 cc.op.k, .int .i64 cc.op.sl, .int .i64 cc.op.at', .int .i64 cc.op.n, .int .u32 cc.op.id, .int .u8 cc.op.g, .string cc.op.s]])))) E2w from hm.drop1c)
                      have HQ := hid (show Same σ σ2 ∧ RnOk σ2 y n n ts none ∧ PgAt σ2 bs2 n n ts (.fin x) ∧ AnnEnd σ n cc σ2 x ∧ σ2.s.lg.length ≤ σ.s.lg.length + 200 from ⟨hS, hK2, hG2, hE, hll⟩)
                      simp only [RsV.v]
                      clear hm hS hK2 hG2 hE hll
                      go_wp2_with fail
                      intro m2
                      refine Mix.wpX_world fun V2 hV2 => ?_
                      have MV2 := hid (show Mem w0.heap.size w0 (σ2.L w0.heap.size ++ (boxR bs2 :: ((p.L w0.heap.size σ.r.sb σ.g n ++ [blkR ab 83 y.arr]) ++ [blkR ob 26 #[.int .u8 cc.op.k, .int .i64 cc.op.sl, .int .i64 cc.op.at', .int .i64 cc.op.n, .int .u32 cc.op.id, .int .u8 cc.op.g, .string cc.op.s]]))) V2 from by rw [hV2]; exact hM2.out.drewN m2)
                      clear hV2
                      refine Mix.wpX_prefix (fuel := 0) (by kernel_rfl) [6, 7, 8, 9, 10, 11, 12, 13] _ _ _ (by kernel_rfl) ?_
                      repeat (first | (refine Mix.mix_q (by simp only [List.getElem?_toArray, List.getElem?_cons_zero, List.getElem?_cons_succ]; exact rfl) rfl ?_; go_big_quiet_step (fail); refine wpQuiet_nil ?_) | (refine Mix.mix_p (by simp only [List.getElem?_toArray, List.getElem?_cons_zero, List.getElem?_cons_succ]; exact rfl) rfl rfl ?_; go_big_quiet_step (fail); refine wpQuiet_nil ?_) | (refine Mix.mix_s (by simp only [List.getElem?_toArray, List.getElem?_cons_zero, List.getElem?_cons_succ]; exact rfl) rfl rfl ?_; go_big_quiet_step (fail); refine wpQuiet_nil ?_))
                      refine Mix.mix_a (by simp only [List.getElem?_toArray, List.getElem?_cons_zero, List.getElem?_cons_succ]; exact rfl) rfl fun Y3 hY3 => ?_
                      obtain ⟨y3, rfl⟩ := hY3
                      go_wp2_with fail
                      refine ⟨fun k hk => Below.heap_alloc _ _ k (by rcases (HSS.out k).1 hk with e | e <;> rw [e]; exact Blk.lt (MV2.out.each 10 (blkR p.g 51 (p.cells σ.r.sb σ.g n)) rfl); exact Blk.lt (MV2.out.each 14 (blkR ob 26 #[.int .u8 cc.op.k, .int .i64 cc.op.sl, .int .i64 cc.op.at', .int .i64 cc.op.n, .int .u32 cc.op.id, .int .u8 cc.op.g, .string cc.op.s]) rfl)), ?_⟩
                      refine Mix.mix_world fun V3 hV3 => ?_
                      obtain ⟨tb3, htb3⟩ : ∃ z, z = V2.heap.size := ⟨_, rfl⟩
                      have MV3 := hid (show Mem w0.heap.size w0 (σ2.L w0.heap.size ++ ((boxR bs2 :: ((p.L w0.heap.size σ.r.sb σ.g n ++ [blkR ab 83 y.arr]) ++ [blkR ob 26 #[.int .u8 cc.op.k, .int .i64 cc.op.sl, .int .i64 cc.op.at', .int .i64 cc.op.n, .int .u32 cc.op.id, .int .u8 cc.op.g, .string cc.op.s]])) ++ [blkR tb3 41 #[.int .i64 0, .int .i64 0, .int .i64 0, .int .i64 0, .int .u8 0, .string ⟨#[]⟩, .int .i64 0, .int .i64 0, .int .i64 0, .int .u8 0, .int .i64 0, .int .i64 0, .slice none 0 0]])) V3 from by rw [hV3, htb3]; exact (MV2.out.drewN y3).snoc _ ((Ch.refl (fun _ => False) (V2.drewN y3)).alloc _) (Blk.new (V2.drewN y3) _ _) (fun k hk => by rw [show k = _ from hk]; exact Nat.le_refl _))
                      rw [← htb3]
                      clear hV3 htb3
                      have rc0 : V3.cell? ⟨tb3, 0, none⟩ = some (_) := MV3.out.lastBlk.cell 0
                      have rcf0 := MV3.out.lastBlk.free 0
                      have rc1 : V3.cell? ⟨tb3, 1, none⟩ = some (_) := MV3.out.lastBlk.cell 1
                      have rcf1 := MV3.out.lastBlk.free 1
                      have rc2 : V3.cell? ⟨tb3, 2, none⟩ = some (_) := MV3.out.lastBlk.cell 2
                      have rcf2 := MV3.out.lastBlk.free 2
                      have rc3 : V3.cell? ⟨tb3, 3, none⟩ = some (_) := MV3.out.lastBlk.cell 3
                      have rcf3 := MV3.out.lastBlk.free 3
                      have rc4 : V3.cell? ⟨tb3, 4, none⟩ = some (_) := MV3.out.lastBlk.cell 4
                      have rcf4 := MV3.out.lastBlk.free 4
                      have rc5 : V3.cell? ⟨tb3, 5, none⟩ = some (_) := MV3.out.lastBlk.cell 5
                      have rcf5 := MV3.out.lastBlk.free 5
                      have rc6 : V3.cell? ⟨tb3, 6, none⟩ = some (_) := MV3.out.lastBlk.cell 6
                      have rcf6 := MV3.out.lastBlk.free 6
                      have rc7 : V3.cell? ⟨tb3, 7, none⟩ = some (_) := MV3.out.lastBlk.cell 7
                      have rcf7 := MV3.out.lastBlk.free 7
                      have rc8 : V3.cell? ⟨tb3, 8, none⟩ = some (_) := MV3.out.lastBlk.cell 8
                      have rcf8 := MV3.out.lastBlk.free 8
                      have rc9 : V3.cell? ⟨tb3, 9, none⟩ = some (_) := MV3.out.lastBlk.cell 9
                      have rcf9 := MV3.out.lastBlk.free 9
                      have rc10 : V3.cell? ⟨tb3, 10, none⟩ = some (_) := MV3.out.lastBlk.cell 10
                      have rcf10 := MV3.out.lastBlk.free 10
                      have rc11 : V3.cell? ⟨tb3, 11, none⟩ = some (_) := MV3.out.lastBlk.cell 11
                      have rcf11 := MV3.out.lastBlk.free 11
                      have rc12 : V3.cell? ⟨tb3, 12, none⟩ = some (_) := MV3.out.lastBlk.cell 12
                      have rcf12 := MV3.out.lastBlk.free 12
                      repeat (first | (refine Mix.mix_q (by simp only [List.getElem?_toArray, List.getElem?_cons_zero, List.getElem?_cons_succ]; exact rfl) rfl ?_; go_big_quiet_step (fail); refine wpQuiet_nil ?_) | (refine Mix.mix_p (by simp only [List.getElem?_toArray, List.getElem?_cons_zero, List.getElem?_cons_succ]; exact rfl) rfl rfl ?_; go_big_quiet_step (fail); refine wpQuiet_nil ?_) | (refine Mix.mix_s (by simp only [List.getElem?_toArray, List.getElem?_cons_zero, List.getElem?_cons_succ]; exact rfl) rfl rfl ?_; go_big_quiet_step (fail); refine wpQuiet_nil ?_))
                      refine Mix.mix_e (by simp only [List.getElem?_toArray, List.getElem?_cons_zero, List.getElem?_cons_succ]; exact rfl) rfl fun O3 hO3 => ?_
                      obtain ⟨o3, rfl⟩ := hO3
                      go_wp2_with fail
                      repeat (first | (refine Mix.mix_q (by simp only [List.getElem?_toArray, List.getElem?_cons_zero, List.getElem?_cons_succ]; exact rfl) rfl ?_; go_big_quiet_step (fail); refine wpQuiet_nil ?_) | (refine Mix.mix_p (by simp only [List.getElem?_toArray, List.getElem?_cons_zero, List.getElem?_cons_succ]; exact rfl) rfl rfl ?_; go_big_quiet_step (fail); refine wpQuiet_nil ?_) | (refine Mix.mix_s (by simp only [List.getElem?_toArray, List.getElem?_cons_zero, List.getElem?_cons_succ]; exact rfl) rfl rfl ?_; go_big_quiet_step (fail); refine wpQuiet_nil ?_))
                      intro m3
                      refine Mix.wpX_done (by kernel_rfl) ?_
                      intro u3
                      have hMEM := ((((((((((((((((MV3.out.drewN o3).putLast 0 (.int .i64 x.er)).putLast 1 (.int .i64 x.rev)).putLast 2 (.int .i64 x.sl)).putLast 3 (.int .i64 x.at')).putLast 4 (.int .u8 x.g)).putLast 5 (.string x.s)).putLast 6 (.int .i64 x.b)).putLast 7 (.int .i64 x.r)).putLast 8 (.int .i64 x.l)).putLast 9 (.int .u8 x.ik)).putLast 10 (.int .i64 x.fr)).putLast 11 (.int .i64 x.to)).putLast 12 (.slice none 0 0)).drewN m3).drewN u3)
                      rw [show ((((((((((((((#[.int .i64 0, .int .i64 0, .int .i64 0, .int .i64 0, .int .u8 0, .string ⟨#[]⟩, .int .i64 0, .int .i64 0, .int .i64 0, .int .u8 0, .int .i64 0, .int .i64 0, .slice none 0 0] : Array Value).setIfInBounds 0 (.int .i64 x.er)).setIfInBounds 1 (.int .i64 x.rev)).setIfInBounds 2 (.int .i64 x.sl)).setIfInBounds 3 (.int .i64 x.at')).setIfInBounds 4 (.int .u8 x.g)).setIfInBounds 5 (.string x.s)).setIfInBounds 6 (.int .i64 x.b)).setIfInBounds 7 (.int .i64 x.r)).setIfInBounds 8 (.int .i64 x.l)).setIfInBounds 9 (.int .u8 x.ik)).setIfInBounds 10 (.int .i64 x.fr)).setIfInBounds 11 (.int .i64 x.to)).setIfInBounds 12 (.slice none 0 0)) = (#[.int .i64 x.er, .int .i64 x.rev, .int .i64 x.sl, .int .i64 x.at', .int .u8 x.g, .string x.s, .int .i64 x.b, .int .i64 x.r, .int .i64 x.l, .int .u8 x.ik, .int .i64 x.fr, .int .i64 x.to, .slice none 0 0] : Array Value) from by kernel_rfl] at hMEM
                      exact ⟨tb3, σ2, bs2, x, v, by simp only [Act.put, List.setIfInBounds_toArray, List.set_cons_succ, List.set_cons_zero], hMEM, HQ.out⟩
                    · refine Mix.mix_a (by simp only [List.getElem?_toArray, List.getElem?_cons_zero, List.getElem?_cons_succ]; exact rfl) rfl fun Y3 hY3 => ?_
                      obtain ⟨y3, rfl⟩ := hY3
                      go_wp2_with fail
                      refine ⟨fun k hk => Below.heap_alloc _ _ k (by rcases (HSS.out k).1 hk with e | e <;> rw [e]; exact Blk.lt (MV0.out.each 10 (blkR p.g 51 (p.cells σ.r.sb σ.g n)) rfl); exact Blk.lt (MV0.out.each 14 (blkR ob 26 #[.int .u8 cc.op.k, .int .i64 cc.op.sl, .int .i64 cc.op.at', .int .i64 cc.op.n, .int .u32 cc.op.id, .int .u8 cc.op.g, .string cc.op.s]) rfl)), ?_⟩
                      refine Mix.mix_world fun V3 hV3 => ?_
                      obtain ⟨tb3, htb3⟩ : ∃ z, z = V0.heap.size := ⟨_, rfl⟩
                      have MV3 := hid (show Mem w0.heap.size w0 (σ.L w0.heap.size ++ ((boxR bs :: ((p.L w0.heap.size σ.r.sb σ.g n ++ [blkR ab 83 y.arr]) ++ [blkR ob 26 #[.int .u8 cc.op.k, .int .i64 cc.op.sl, .int .i64 cc.op.at', .int .i64 cc.op.n, .int .u32 cc.op.id, .int .u8 cc.op.g, .string cc.op.s]])) ++ [blkR tb3 41 #[.int .i64 0, .int .i64 0, .int .i64 0, .int .i64 0, .int .u8 0, .string ⟨#[]⟩, .int .i64 0, .int .i64 0, .int .i64 0, .int .u8 0, .int .i64 0, .int .i64 0, .slice none 0 0]])) V3 from by rw [hV3, htb3]; exact (MV0.out.drewN y3).snoc _ ((Ch.refl (fun _ => False) (V0.drewN y3)).alloc _) (Blk.new (V0.drewN y3) _ _) (fun k hk => by rw [show k = _ from hk]; exact Nat.le_refl _))
                      rw [← htb3]
                      clear hV3 htb3
                      intro m4
                      refine Mix.wpX_world fun V4 hV4 => ?_
                      have MV4 := hid (show Mem w0.heap.size w0 (σ.L w0.heap.size ++ ((boxR bs :: ((p.L w0.heap.size σ.r.sb σ.g n ++ [blkR ab 83 y.arr]) ++ [blkR ob 26 #[.int .u8 cc.op.k, .int .i64 cc.op.sl, .int .i64 cc.op.at', .int .i64 cc.op.n, .int .u32 cc.op.id, .int .u8 cc.op.g, .string cc.op.s]])) ++ [blkR tb3 41 #[.int .i64 0, .int .i64 0, .int .i64 0, .int .i64 0, .int .u8 0, .string ⟨#[]⟩, .int .i64 0, .int .i64 0, .int .i64 0, .int .u8 0, .int .i64 0, .int .i64 0, .slice none 0 0]])) V4 from by rw [hV4]; exact MV3.out.drewN m4)
                      clear hV4
                      refine Mix.wpX_prefix (fuel := 0) (by kernel_rfl) [5, 6, 7, 8, 9, 11, 12, 13] _ _ _ (by kernel_rfl) ?_
                      refine Mix.mix_e (by simp only [List.getElem?_toArray, List.getElem?_cons_zero, List.getElem?_cons_succ]; exact rfl) rfl fun E5 hE5 => ?_
                      obtain ⟨e5, rfl⟩ := hE5
                      go_wp2_with fail
                      refine (fin_ann (Mem.consApp (MV4.out.drewN e5)) HI.out.K HBZ.out HLG.out HCC.out).mono ?_
                      rintro e E5w ⟨σ2, bs2, x, v, phs, rfl, hm, hS, hK2, hG2, hE, hll⟩
                      have hM5 := hid (show Mem w0.heap.size w0 (σ2.L w0.heap.size ++ ((boxR bs2 :: ((p.L w0.heap.size σ.r.sb σ.g n ++ [blkR ab 83 y.arr]) ++ [blkR ob 26 #[.int .u8 cc.op.k, .int .i64 cc.op.sl, .int .i64 cc.op.at', .int .i64 cc.op.n, .int .u32 cc.op.id, .int .u8 cc.op.g, .string cc.op.s]])) ++ [blkR tb3 41 #[.int .i64 0, .int .i64 0, .int .i64 0, .int .i64 0, .int .u8 0, .string ⟨#[]⟩, .int .i64 0, .int .i64 0, .int .i64 0, .int .u8 0, .int .i64 0, .int .i64 0, .slice none 0 0]])) E5w from hm.drop1c)
                      have HQ := hid (show Same σ σ2 ∧ RnOk σ2 y n n ts none ∧ PgAt σ2 bs2 n n ts (.fin x) ∧ AnnEnd σ n cc σ2 x ∧ σ2.s.lg.length ≤ σ.s.lg.length + 200 from ⟨hS, hK2, hG2, hE, hll⟩)
                      simp only [RsV.v]
                      clear hm hS hK2 hG2 hE hll
                      go_wp2_with fail
                      refine Mix.mix_world fun V5 hV5 => ?_
                      have MV5 := hid (show Mem w0.heap.size w0 (σ2.L w0.heap.size ++ ((boxR bs2 :: ((p.L w0.heap.size σ.r.sb σ.g n ++ [blkR ab 83 y.arr]) ++ [blkR ob 26 #[.int .u8 cc.op.k, .int .i64 cc.op.sl, .int .i64 cc.op.at', .int .i64 cc.op.n, .int .u32 cc.op.id, .int .u8 cc.op.g, .string cc.op.s]])) ++ [blkR tb3 41 #[.int .i64 0, .int .i64 0, .int .i64 0, .int .i64 0, .int .u8 0, .string ⟨#[]⟩, .int .i64 0, .int .i64 0, .int .i64 0, .int .u8 0, .int .i64 0, .int .i64 0, .slice none 0 0]])) V5 from by rw [hV5]; exact hM5.out)
                      clear hV5
                      have rc0 : V5.cell? ⟨tb3, 0, none⟩ = some (_) := MV5.out.lastBlk.cell 0
                      have rcf0 := MV5.out.lastBlk.free 0
                      have rc1 : V5.cell? ⟨tb3, 1, none⟩ = some (_) := MV5.out.lastBlk.cell 1
                      have rcf1 := MV5.out.lastBlk.free 1
                      have rc2 : V5.cell? ⟨tb3, 2, none⟩ = some (_) := MV5.out.lastBlk.cell 2
                      have rcf2 := MV5.out.lastBlk.free 2
                      have rc3 : V5.cell? ⟨tb3, 3, none⟩ = some (_) := MV5.out.lastBlk.cell 3
                      have rcf3 := MV5.out.lastBlk.free 3
                      have rc4 : V5.cell? ⟨tb3, 4, none⟩ = some (_) := MV5.out.lastBlk.cell 4
                      have rcf4 := MV5.out.lastBlk.free 4
                      have rc5 : V5.cell? ⟨tb3, 5, none⟩ = some (_) := MV5.out.lastBlk.cell 5
                      have rcf5 := MV5.out.lastBlk.free 5
                      have rc6 : V5.cell? ⟨tb3, 6, none⟩ = some (_) := MV5.out.lastBlk.cell 6
                      have rcf6 := MV5.out.lastBlk.free 6
                      have rc7 : V5.cell? ⟨tb3, 7, none⟩ = some (_) := MV5.out.lastBlk.cell 7
                      have rcf7 := MV5.out.lastBlk.free 7
                      have rc8 : V5.cell? ⟨tb3, 8, none⟩ = some (_) := MV5.out.lastBlk.cell 8
                      have rcf8 := MV5.out.lastBlk.free 8
                      have rc9 : V5.cell? ⟨tb3, 9, none⟩ = some (_) := MV5.out.lastBlk.cell 9
                      have rcf9 := MV5.out.lastBlk.free 9
                      have rc10 : V5.cell? ⟨tb3, 10, none⟩ = some (_) := MV5.out.lastBlk.cell 10
                      have rcf10 := MV5.out.lastBlk.free 10
                      have rc11 : V5.cell? ⟨tb3, 11, none⟩ = some (_) := MV5.out.lastBlk.cell 11
                      have rcf11 := MV5.out.lastBlk.free 11
                      have rc12 : V5.cell? ⟨tb3, 12, none⟩ = some (_) := MV5.out.lastBlk.cell 12
                      have rcf12 := MV5.out.lastBlk.free 12
                      repeat (first | (refine Mix.mix_q (by simp only [List.getElem?_toArray, List.getElem?_cons_zero, List.getElem?_cons_succ]; exact rfl) rfl ?_; go_big_quiet_step (fail); refine wpQuiet_nil ?_) | (refine Mix.mix_p (by simp only [List.getElem?_toArray, List.getElem?_cons_zero, List.getElem?_cons_succ]; exact rfl) rfl rfl ?_; go_big_quiet_step (fail); refine wpQuiet_nil ?_) | (refine Mix.mix_s (by simp only [List.getElem?_toArray, List.getElem?_cons_zero, List.getElem?_cons_succ]; exact rfl) rfl rfl ?_; go_big_quiet_step (fail); refine wpQuiet_nil ?_))
                      refine Mix.mix_e (by simp only [List.getElem?_toArray, List.getElem?_cons_zero, List.getElem?_cons_succ]; exact rfl) rfl fun O5 hO5 => ?_
                      obtain ⟨o5, rfl⟩ := hO5
                      go_wp2_with fail
                      repeat (first | (refine Mix.mix_q (by simp only [List.getElem?_toArray, List.getElem?_cons_zero, List.getElem?_cons_succ]; exact rfl) rfl ?_; go_big_quiet_step (fail); refine wpQuiet_nil ?_) | (refine Mix.mix_p (by simp only [List.getElem?_toArray, List.getElem?_cons_zero, List.getElem?_cons_succ]; exact rfl) rfl rfl ?_; go_big_quiet_step (fail); refine wpQuiet_nil ?_) | (refine Mix.mix_s (by simp only [List.getElem?_toArray, List.getElem?_cons_zero, List.getElem?_cons_succ]; exact rfl) rfl rfl ?_; go_big_quiet_step (fail); refine wpQuiet_nil ?_))
                      intro m5
                      refine Mix.wpX_done (by kernel_rfl) ?_
                      intro u5
                      have hMEM := ((((((((((((((((MV5.out.drewN o5).putLast 0 (.int .i64 x.er)).putLast 1 (.int .i64 x.rev)).putLast 2 (.int .i64 x.sl)).putLast 3 (.int .i64 x.at')).putLast 4 (.int .u8 x.g)).putLast 5 (.string x.s)).putLast 6 (.int .i64 x.b)).putLast 7 (.int .i64 x.r)).putLast 8 (.int .i64 x.l)).putLast 9 (.int .u8 x.ik)).putLast 10 (.int .i64 x.fr)).putLast 11 (.int .i64 x.to)).putLast 12 (.slice none 0 0)).drewN m5).drewN u5)
                      rw [show ((((((((((((((#[.int .i64 0, .int .i64 0, .int .i64 0, .int .i64 0, .int .u8 0, .string ⟨#[]⟩, .int .i64 0, .int .i64 0, .int .i64 0, .int .u8 0, .int .i64 0, .int .i64 0, .slice none 0 0] : Array Value).setIfInBounds 0 (.int .i64 x.er)).setIfInBounds 1 (.int .i64 x.rev)).setIfInBounds 2 (.int .i64 x.sl)).setIfInBounds 3 (.int .i64 x.at')).setIfInBounds 4 (.int .u8 x.g)).setIfInBounds 5 (.string x.s)).setIfInBounds 6 (.int .i64 x.b)).setIfInBounds 7 (.int .i64 x.r)).setIfInBounds 8 (.int .i64 x.l)).setIfInBounds 9 (.int .u8 x.ik)).setIfInBounds 10 (.int .i64 x.fr)).setIfInBounds 11 (.int .i64 x.to)).setIfInBounds 12 (.slice none 0 0)) = (#[.int .i64 x.er, .int .i64 x.rev, .int .i64 x.sl, .int .i64 x.at', .int .u8 x.g, .string x.s, .int .i64 x.b, .int .i64 x.r, .int .i64 x.l, .int .u8 x.ik, .int .i64 x.fr, .int .i64 x.to, .slice none 0 0] : Array Value) from by kernel_rfl] at hMEM
                      exact ⟨tb3, σ2, bs2, x, v, by simp only [Act.put, List.setIfInBounds_toArray, List.set_cons_succ, List.set_cons_zero], hMEM, HQ.out⟩
                  · clear q1 o0 o1 o2 o3 o4 o5 o6 hSp1 hSp2 HSS lp4 OB4
                    rintro a' w8 ⟨rb, σ2, bs2, x2, v, rfl, hM, hS2, hK2, hG2, hE, hll⟩
                    simp only [Act.put, List.setIfInBounds_toArray, List.set_cons_succ, List.set_cons_zero]
                    have M8 := hid hM
                    have HS2 := hid hS2
                    have HK2 := hid hK2
                    have HG2 := hid hG2
                    have HLL := hid hll
                    have HAE := hid hE
                    have MT8 := hid (show Mem w0.heap.size w0 (σ2.L w0.heap.size ++ (boxR bs2 :: (p.L w0.heap.size σ2.r.sb σ2.g n ++ [blkR ab 83 y.arr]))) w8 from p_same (R := [blkR ab 83 y.arr]) (Mem.drop1c hM.drop1) hS2)
                    have HFN := hid (show ∀ W, Mem w0.heap.size w0 (σ2.L w0.heap.size ++ (boxR bs2 :: (p.L w0.heap.size σ2.r.sb σ2.g n ++ [blkR ab 83 y.arr]))) W → AnI w0 p.g σ.p ab n y (cnt6 (l.take k)) (k + 1) W σ2 bs2 p ts x2 from fun W hW => {
                      M := hW
                      K := hK2
                      G := hG2
                      hg := rfl
                      hp := hS2.p
                      an := by rw [hS2.A]; exact HI.out.an
                      nl := by rw [hS2.ns]; exact HI.out.nl
                      tl := HI.out.tl
                      lg := by have := HI.out.lg; omega
                      f := hS2.f.trans HI.out.f
                      cl := hS2.cl.trans HI.out.cl
                      y0 := HI.out.y0 })
                    have OB8 := hid (show Blk w8 ob 26 #[.int .u8 cc.op.k, .int .i64 cc.op.sl, .int .i64 cc.op.at', .int .i64 cc.op.n, .int .u32 cc.op.id, .int .u8 cc.op.g, .string cc.op.s] from Mem.lastBc (R := p.L w0.heap.size σ.r.sb σ.g n ++ [blkR ab 83 y.arr]) hM.drop1)
                    have RB8 := hid (show Blk w8 rb 41 x2.arr from hM.lastB)
                    clear hM hS2 hK2 hG2 hE hll
                    have o0 : w8.cell? ⟨ob, 0, none⟩ = some (.int .u8 cc.op.k) := OB8.out.cell 0
                    have r0 : w8.cell? ⟨rb, 0, none⟩ = some (.int .i64 x2.er) := RB8.out.cell 0
                    go_upto_region 19 with fail
                    go_cut [122] from 113 to 122 (fun s w => w8 = w ∧ (s = .bool false ∨ (s = .bool true ∧ cc = .acq ∧ x2.er = 0)))
                    case first =>
                      rcases HCC.out with hcq | ⟨kr, hcr, _⟩
                      · have f1 : (cc.op.k == 5) = true := by rw [hcq]; rfl
                        have HQ := hid hcq
                        clear hcq
                        by_cases he0 : x2.er = 0
                        · have f2 : (x2.er == 0) = true := by rw [he0]; rfl
                          have HE0 := hid he0
                          clear he0
                          go_wp2_with fail
                          go_meet
                          case rel => exact ⟨rfl, .inr ⟨by first | rfl | exact congrArg Value.bool f2, HQ.out, HE0.out⟩⟩
                        · have f2 : (x2.er == 0) = false := by rw [beq_eq_false_iff_ne]; exact he0
                          clear he0
                          go_wp2_with fail
                          go_meet
                          case rel => exact ⟨rfl, .inl (by first | rfl | exact congrArg Value.bool f2)⟩
                      · have f1 : (cc.op.k == 5) = false := by rw [hcr]; rfl
                        clear hcr
                        go_wp2_with fail
                        go_meet
                        case rel => exact ⟨rfl, .inl rfl⟩
                    case rest =>
                      obtain ⟨hwc, hcut⟩ := hcut
                      subst hwc
                      clear o0 r0
                      have HCUT := hid hcut
                      clear hcut
                      go_upto_if 122 with fail
                      go_cut [] from 123 to 201 (fun w => Mem w0.heap.size w0 (σ2.L w0.heap.size ++ (boxR bs2 :: (p.L w0.heap.size σ2.r.sb σ2.g n ++ [blkR ab 83 y.arr]))) w)
                      case first =>
                        rcases HCUT.out with hs | ⟨hs, hcq, he0⟩
                        · subst hs
                          go_wp2_with fail
                          go_meet
                          case rel => exact MT8.out
                        · subst hs
                          have r2 : w8.cell? ⟨rb, 2, none⟩ = some (.int .i64 x2.sl) := RB8.out.cell 2
                          have hae := HAE.out
                          rw [hcq] at hae
                          rcases hae with ⟨he1, _⟩ | ⟨_, kk, ss, ii, rr, hfr, _, _, _, _, _, _, hx2, _, hs2⟩
                          · exact absurd he0 he1
                          · as_aux_lemma =>
                              have hx2sl : x2.sl = (kk : Int) := congrArg RsV.sl hx2
                              have hkn : kk < n := by
                                rcases free1_spec (σ.sl.map sptr) 0 with h | ⟨i, h, hi⟩
                                · omega
                                · have hl := (List.getElem?_eq_some_iff.1 hi).1
                                  rw [List.length_map, HI.out.K.O.nl] at hl
                                  omega
                              have hslot : ((σ.f.slot (n + kk) : Nat) : Int) = 6 + (n : Int) + (kk : Int) := by rw [HI.out.f]; show (((6 + ((n + kk : Nat) : Int)).toNat : Nat) : Int) = _; omega
                              have hep : σ.f.ep = 2 := by rw [HI.out.f]
                              obtain ⟨ev, hev⟩ : ∃ ev, ev = lk σ.s.vs 2 := ⟨_, rfl⟩
                              obtain ⟨v0, hv0⟩ : ∃ v0, v0 = lk σ.s.vs 0 := ⟨_, rfl⟩
                              obtain ⟨v1, hv1⟩ : ∃ v1, v1 = lk (acq2 σ).vs (σ.f.slot (n + kk) : Int).toNat := ⟨_, rfl⟩
                              obtain ⟨v2, hv2⟩ : ∃ v2, v2 = lk (acq3 σ n kk).vs (1 : Int).toNat := ⟨_, rfl⟩
                              have hevb : 0 ≤ ev ∧ ev < 1000000 := by rw [hev]; have := HI.out.K.ep; rwa [hep] at this
                              have hlog : σ2.s.lg = σ.s.lg ++ [⟨σ.r.cl, 0, 1, v0, v0, false⟩, ⟨σ.r.cl, 2, 1, ev, ev, false⟩, ⟨σ.r.cl, 6 + (n : Int) + (kk : Int), 2, v1, ev + 1, false⟩, ⟨σ.r.cl, 1, 1, v2, v2, false⟩] := by
                                rw [hs2, hev, hv0, hv1, hv2, ← hslot]
                                unfold acq4 acq3 acq2 acq1
                                simp only [BS.load, BS.store, BS.log, BS.setlog, hep]
                                simp
                              have hdrop : σ2.s.lg.drop (cutAt (σ.s.lg.length : Int) σ2.s.lg.length) = [⟨σ.r.cl, 0, 1, v0, v0, false⟩, ⟨σ.r.cl, 2, 1, ev, ev, false⟩, ⟨σ.r.cl, 6 + (n : Int) + (kk : Int), 2, v1, ev + 1, false⟩, ⟨σ.r.cl, 1, 1, v2, v2, false⟩] := by
                                have e : cutAt (σ.s.lg.length : Int) σ2.s.lg.length = σ.s.lg.length := by
                                  rw [← cutAt_min, hlog, List.length_append]
                                  simp
                                rw [e, hlog, List.drop_left]
                              have HD := hid hdrop
                              have BK8 := hid (m_bk MT8.out)
                              have hp2 : σ2.p = σ.p := HS2.out.p
                              have HP2 := hid hp2
                              have hl2 : σ2.s.lg.length < 1000000 := by have := HLL.out; have := HI.out.lg; omega
                              clear hslot hep hev hv0 hv1 hv2 hlog hdrop hp2 hx2 hs2 hfr
                              rw [hx2sl] at r2
                              have HXS := hid hx2sl
                              clear hx2sl he0 hcq
                              go_wp2_with fail
                              have hlw := log_any w0.heap.size σ2.p σ2.cb σ2.lv σ2.s (σ.s.lg.length : Int) w8 BK8.out hl2
                              rw [HP2.out] at hlw
                              refine hlw.mono ?_
                              clear hlw
                              rintro e w9 hacc
                              rw [HD.out] at hacc
                              obtain ⟨lgb, rfl, hlgb, hc9, hlg9⟩ := hacc
                              have MT := hid (MT8.out.keep hc9)
                              have LB := hid hlgb
                              have RB9 := hid (hc9.blk RB8.out id)
                              have r2 : w9.cell? ⟨rb, 2, none⟩ = some (.int .i64 (kk : Int)) := by rw [← HXS.out]; exact RB9.out.cell 2
                              clear hlgb hc9 hlg9 BK8 hl2 RB8
                              have ALB := hid (show Blk w9 ab 83 y.arr from MT.out.each 13 _ rfl)
                              have al0 : w9.cell? ⟨ab, 0, none⟩ = some (.int .i64 0) := by rw [← HI.out.y0.1]; exact ALB.out.cell 0
                              have al1 : w9.cell? ⟨ab, 1, none⟩ = some (.int .i64 1) := by rw [← HI.out.y0.2.1]; exact ALB.out.cell 1
                              have al2 : w9.cell? ⟨ab, 2, none⟩ = some (.int .i64 2) := by rw [← HI.out.y0.2.2.1]; exact ALB.out.cell 2
                              have al6 : w9.cell? ⟨ab, 6, none⟩ = some (.int .i64 6) := by rw [← HI.out.y0.2.2.2]; exact ALB.out.cell 6
                              have g01 : w9.cell? ⟨lgb, 1, none⟩ = some (.int .i64 0) := LB.out.cell 1
                              have g11 : w9.cell? ⟨lgb, 7, none⟩ = some (.int .i64 2) := LB.out.cell 7
                              have g12 : w9.cell? ⟨lgb, 8, none⟩ = some (.int .u8 1) := LB.out.cell 8
                              have g13 : w9.cell? ⟨lgb, 9, none⟩ = some (.int .u64 ev) := LB.out.cell 9
                              have g21 : w9.cell? ⟨lgb, 13, none⟩ = some (.int .i64 (6 + (n : Int) + (kk : Int))) := LB.out.cell 13
                              have g22 : w9.cell? ⟨lgb, 14, none⟩ = some (.int .u8 2) := LB.out.cell 14
                              have g24 : w9.cell? ⟨lgb, 16, none⟩ = some (.int .u64 (ev + 1)) := LB.out.cell 16
                              have g31 : w9.cell? ⟨lgb, 19, none⟩ = some (.int .i64 1) := LB.out.cell 19
                              have g32 : w9.cell? ⟨lgb, 20, none⟩ = some (.int .u8 1) := LB.out.cell 20
                              have wu : IntKind.u64.wrap (ev + 1) = ev + 1 := by simp [IntKind.wrap, IntKind.signed, IntKind.bits]; omega
                              simp only [List.length_cons, List.length_nil]
                              go_wp2_with fail
                              refine Mix.wp_region_mix (fun _ => True) (fun i => ([0, 0, 0, 0, 0, 0, 0, 0, 0, 0, 0, 0, 0, 0, 0, 0, 0, 0, 0, 0, 0, 0, 0, 0, 0, 0, 0, 0, 0, 0, 0, 0, 0, 0, 0, 0, 0, 0] : List Nat).getD i 0) [0, 1, 2, 3, 4, 5, 6, 7, 8, 9, 10, 11, 12, 13, 14, 15, 16, 17, 18, 19, 20, 21, 22, 23, 24, 25, 26, 27, 28, 29, 30, 31, 32, 33, 34, 35, 36, 37] (by kernel_rfl) (by kernel_rfl) ?_
                              repeat (first | (refine Mix.mix_q (by simp only [List.getElem?_toArray, List.getElem?_cons_zero, List.getElem?_cons_succ]; exact rfl) rfl ?_; go_big_quiet_step (fail); refine wpQuiet_nil ?_) | (refine Mix.mix_p (by simp only [List.getElem?_toArray, List.getElem?_cons_zero, List.getElem?_cons_succ]; exact rfl) rfl rfl ?_; go_big_quiet_step (fail); refine wpQuiet_nil ?_) | (refine Mix.mix_s (by simp only [List.getElem?_toArray, List.getElem?_cons_zero, List.getElem?_cons_succ]; exact rfl) rfl rfl ?_; go_big_quiet_step (fail); refine wpQuiet_nil ?_))
                              intro m22
                              go_wp2_with fail
                              refine Mix.wp_region_mix (fun _ => True) (fun i => ([0, 0, 0, 0, 0, 0, 0, 0, 0, 0, 0, 0, 0, 0, 0, 0, 0, 0, 0, 0, 0, 0, 0, 0, 0, 0, 0, 0, 0, 0, 0] : List Nat).getD i 0) [0, 1, 2, 3, 4, 5, 6, 7, 8, 9, 10, 11, 12, 13, 14, 15, 16, 17, 18, 19, 20, 21, 22, 23, 24, 25, 26, 27, 28, 29, 30] (by kernel_rfl) (by kernel_rfl) ?_
                              repeat (first | (refine Mix.mix_q (by simp only [List.getElem?_toArray, List.getElem?_cons_zero, List.getElem?_cons_succ]; exact rfl) rfl ?_; go_big_quiet_step (fail); refine wpQuiet_nil ?_) | (refine Mix.mix_p (by simp only [List.getElem?_toArray, List.getElem?_cons_zero, List.getElem?_cons_succ]; exact rfl) rfl rfl ?_; go_big_quiet_step (fail); refine wpQuiet_nil ?_) | (refine Mix.mix_s (by simp only [List.getElem?_toArray, List.getElem?_cons_zero, List.getElem?_cons_succ]; exact rfl) rfl rfl ?_; go_big_quiet_step (fail); refine wpQuiet_nil ?_))
                              intro m24
                              go_wp2_with fail
                              go_meet
                              case rel => first | exact (MT.out.drewN _).drewN _ | exact MT.out.drewN _ | exact MT.out
                      case rest =>
                        as_aux_lemma =>
                          have MT := hid hcut
                          clear hcut HCUT
                          have pt1 : wc.cell? ⟨p.g, 1, none⟩ = some (.pointer (some ⟨σ.g, 0, none⟩)) := by have t : _ = some (Value.pointer (some ⟨σ2.g, 0, none⟩)) := (p_blk MT.out).cell 1; rw [HS2.out.g] at t; exact t
                          have RT := hid (show Blk wc σ.g 111 σ2.r.cells from by rw [← HS2.out.g]; exact m_rd MT.out)
                          have SLT := hid (m_sl MT.out).b
                          go_wp2_with fail
                          refine (rheld_any σ.g σ2.lb n σ2.r (σ2.sl.map sptr) wc RT.out HK2.out.O.sl SLT.out (by rw [List.length_map]; exact HK2.out.O.nl) (by omega)).mono ?_
                          rintro e wH ⟨hv, rfl, hown, hcH⟩
                          have MH := hid (MT.out.keep hcH)
                          have HW := hid hown
                          have hul := heldU_len (σ2.sl.map sptr) n
                          obtain ⟨U, hU⟩ : ∃ U, U = heldU (σ2.sl.map sptr) n := ⟨_, rfl⟩
                          have HU := hid hU
                          rw [← hU] at HW hul
                          obtain ⟨AH, cH, hvH, _⟩ := own_slice HW.out
                          subst hvH
                          clear hown hcH hU pt1
                          go_wp2_with fail
                          go_loopw [20] (fun i2 W2 => ∃ q : Nat, q ≤ n ∧ i2 = .int .i64 (q : Int) ∧ wH = W2) (fun i2 _ => n - (intOf i2).toNat)
                          case atStart => exact ⟨0, Nat.zero_le _, rfl, rfl⟩
                          case round =>
                            obtain ⟨q, hq, rfl, rfl⟩ := hrel
                            by_cases hqn : q < n
                            · have e1 : decide (q < n) = true := decide_eq_true hqn
                              have e1' : decide ((q : Int) < (n : Int)) = true := decide_eq_true (by omega)
                              go_wp2_with fail
                              go_loopw [21, 22] (fun hs i3 W3 => ∃ j : Nat, j ≤ U.length ∧ i3 = .int .i64 (j : Int) ∧ hs = .bool ((U.take j).any fun u => u == (q : Int)) ∧ wH = W3) (fun _ i3 _ => U.length - (intOf i3).toNat)
                              case atStart => exact ⟨0, Nat.zero_le _, rfl, rfl, rfl⟩
                              case round =>
                                obtain ⟨j, hj, rfl, rfl, rfl⟩ := hrel
                                obtain ⟨hb, hhb⟩ : ∃ hb, hb = (U.take j).any fun u => u == (q : Int) := ⟨_, rfl⟩
                                have HHB := hid hhb
                                rw [← hhb]
                                clear hhb
                                by_cases hjn : j < U.length
                                · have e2 : decide (j < U.length) = true := decide_eq_true hjn
                                  have e2' : decide ((j : Int) < (U.length : Int)) = true := decide_eq_true (by omega)
                                  obtain ⟨u, hu⟩ : ∃ u, U[j]? = some u := ⟨_, List.getElem?_eq_getElem hjn⟩
                                  obtain ⟨gH, cgH, hvv, _, _, _, hglH⟩ := own_form HW.out (by omega)
                                  injection hvv with hAH _ hcgH
                                  subst hAH hcgH
                                  have cu : wH.cell? ⟨gH, j, none⟩ = some (.int .i64 u) := by
                                    have t := HW.out.cells (g := gH) rfl j _ (by rw [iV, List.getElem?_map, hu]; rfl)
                                    rw [addr_add0] at t
                                    exact t
                                  have htk : (U.take (j + 1)).any (fun u => u == (q : Int)) = (hb || (u == (q : Int))) := by
                                    have hkl := List.getElem?_eq_some_iff.1 hu
                                    rw [List.take_succ_eq_append_getElem hkl.1, hkl.2, List.any_append, HHB.out]
                                    simp
                                  have HTK := hid htk
                                  clear htk hu
                                  cases hb with
                                  | true =>
                                    go_wp2_with fail
                                    go_roundw
                                    case rel => exact ⟨j + 1, hjn, by go_num, by rw [HTK.out]; rfl, by first | rfl | trivial⟩
                                    case measure => simp [intOf]; omega
                                  | false =>
                                    obtain ⟨bq, hbq⟩ : ∃ bq, bq = (u == (q : Int)) := ⟨_, rfl⟩
                                    have hbq' : (u == (q : Int)) = bq := hbq.symm
                                    rw [hbq'] at HTK
                                    clear hbq
                                    cases bq with
                                    | true =>
                                      go_wp2_with fail
                                      go_roundw
                                      case rel => exact ⟨j + 1, hjn, by go_num, by rw [HTK.out]; rfl, by first | rfl | trivial⟩
                                      case measure => simp [intOf]; omega
                                    | false =>
                                      go_wp2_with fail
                                      go_roundw
                                      case rel => exact ⟨j + 1, hjn, by go_num, by rw [HTK.out]; rfl, by first | rfl | trivial⟩
                                      case measure => simp [intOf]; omega
                                · obtain rfl : j = U.length := by omega
                                  have e2 : decide (U.length < U.length) = false := decide_eq_false (by omega)
                                  have e2' : decide ((U.length : Int) < (U.length : Int)) = false := decide_eq_false (by omega)
                                  have BKH := hid (m_bk MH.out)
                                  have AL6 : wH.cell? ⟨ab, 6, none⟩ = some (.int .i64 6) := by
                                    have t : wH.cell? ⟨ab, 6, none⟩ = some (.int .i64 y.l6) := Blk.cell (MH.out.each 13 (blkR ab 83 y.arr) rfl) 6
                                    rw [HI.out.y0.2.2.2] at t
                                    exact t
                                  have hps : σ2.p = σ.p := HS2.out.p
                                  have hfs : σ2.f = ⟨2, 6, 2 * n⟩ := HS2.out.f.trans HI.out.f
                                  have hslot : σ2.f.slot (n + q) = 6 + n + q := by rw [hfs]; show (6 + ((n + q : Nat) : Int)).toNat = 6 + n + q; omega
                                  have hpn := HK2.out.pn q hqn (fun e => by cases e)
                                  rw [hslot] at hpn
                                  have hmem : (hb = true) ↔ ∃ g, (σ2.sl.map sptr)[q]? = some (some g) := by
                                    rw [HHB.out, List.take_of_length_le (Nat.le_refl _), List.any_eq_true]
                                    constructor
                                    · rintro ⟨u, hu, e⟩
                                      have e' : u = (q : Int) := by simpa using e
                                      rw [e', HU.out] at hu
                                      exact (heldU_mem.1 hu).2
                                    · intro hg
                                      exact ⟨(q : Int), by rw [HU.out]; exact heldU_mem.2 ⟨hqn, hg⟩, by simp⟩
                                  obtain ⟨lv0, hlv0⟩ : ∃ v, v = lk σ2.s.vs (6 + n + q) := ⟨_, rfl⟩
                                  have hvz : (lv0 != 0) = hb := by
                                    rw [hlv0]
                                    rcases hpn with ⟨h1, _, h3⟩ | ⟨ss, gg, qq, h1, _, _, h3⟩
                                    · rw [h3]
                                      cases hb with
                                      | false => rfl
                                      | true =>
                                        obtain ⟨g, hg⟩ := hmem.1 rfl
                                        rw [List.getElem?_map, h1] at hg
                                        simp [sptr] at hg
                                    · have : hb = true := hmem.2 ⟨ss.g, by rw [List.getElem?_map, h1]; rfl⟩
                                      rw [this, bne_iff_ne]
                                      exact h3
                                  have HVZ := hid hvz
                                  have HLV := hid hlv0
                                  have hc6 : 6 + n + q < σ2.s.vs.length := by
                                    have := (HK2.out.O.ed.s (n + q) (by have := HK2.out.O.mn; omega)).2
                                    rw [hfs] at this
                                    have t : (6 : Int) + ((n + q : Nat) : Int) < (σ2.s.vs.length : Int) := this
                                    omega
                                  have HP6 := hid hps
                                  clear hvz hlv0 hmem hpn hslot hfs hps
                                  go_wp2_with fail
                                  rw [show (6 : Int) + (n : Int) + (q : Int) = ((6 + n + q : Nat) : Int) by push_cast; rfl]
                                  have hpk := peek_ok w0.heap.size σ2.p σ2.cb σ2.lv σ2.s ((6 + n + q : Nat) : Int) wH BKH.out (by omega) (by omega)
                                  rw [HP6.out] at hpk
                                  refine hpk.mono ?_
                                  clear hpk
                                  rintro e w' ⟨rfl, rfl⟩
                                  rw [show lk σ2.s.vs ((6 + n + q : Nat) : Int).toNat = lv0 from HLV.out.symm]
                                  cases hb with
                                  | true =>
                                    have v1 : (lv0 != 0) = true := HVZ.out
                                    go_wp2_with fail
                                    go_roundw
                                    case rel => exact ⟨q + 1, hqn, by go_num, by first | rfl | trivial⟩
                                    case measure => simp [intOf]; omega
                                  | false =>
                                    have v1 : (lv0 != 0) = false := HVZ.out
                                    go_wp2_with fail
                                    go_roundw
                                    case rel => exact ⟨q + 1, hqn, by go_num, by first | rfl | trivial⟩
                                    case measure => simp [intOf]; omega
                            · obtain rfl : q = n := by omega
                              have e1 : decide (q < q) = false := decide_eq_false (by omega)
                              have e1' : decide ((q : Int) < (q : Int)) = false := decide_eq_false (by omega)
                              go_wp2_with fail
                              go_roundw
                              case rel => exact ⟨k + 1, _, _, _, _, _, hlt, by go_num, by rw [HC6'.out]; exact HFN.out wH MH.out⟩
                              case measure => simp [intOf]; omega
            · simp only [OpV.v]
              go_wp2_with fail
              go_roundw
              case rel => exact ⟨k + 1, _, _, _, _, _, hlt, by go_num, by rw [HC6'.out]; exact HI.out.next (HC4.out.alloc _)⟩
              case measure => simp [intOf]; omega
        · obtain rfl : k = nn := by omega
          have d1 : decide (k < k) = false := decide_eq_false (by omega)
          have d1' : decide ((k : Int) < (k : Int)) = false := decide_eq_false (by omega)
          go_wp2_with fail
          go_ret
          exact ⟨rfl, HI.out.M.bel⟩
end Go.Proofs.YtjcdknhejcbpiaaGreat
