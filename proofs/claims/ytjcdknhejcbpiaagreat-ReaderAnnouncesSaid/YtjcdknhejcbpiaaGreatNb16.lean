/- Lemmas that the proof of the last text leans on; no condition. -/
import Derived.Test.YtjcdknhejcbpiaaGreatNb09
import Derived.Test.YtjcdknhejcbpiaaGreatNb15
import Derived.Test.YtjcdknhejcbpiaaGreatNb11
namespace Go.Proofs.YtjcdknhejcbpiaaGreat
open Go.RowKit
set_option linter.unusedVariables false
set_option linter.unusedSimpArgs false
set_option linter.unusedSectionVars false
structure ArA where
  ab : Nat
  lb : Nat
  mb : Nat
  g0 : Nat
  g1 : Nat
  g2 : Nat
  n : Nat
  g : Int
structure An where
  x : Nd
  a : Option Addr
  c : Nat
def An.v (y : An) : Value := y.x.v y.a y.x.ks.length y.c
def entsF : Nat → List An → List (Int × Value)
  | _, [] => []
  | i, y :: l => (hdl i, y.v) :: entsF (i + 1) l
theorem ents_len : ∀ (l : List An) (i : Nat), (entsF i l).length = l.length
  | [], _ => rfl
  | y :: l, i => by simp [entsF, ents_len l]
theorem ents_snoc : ∀ (l : List An) (i : Nat) (y : An), entsF i (l ++ [y]) = entsF i l ++ [(hdl (i + l.length), y.v)]
  | [], i, y => rfl
  | z :: l, i, y => by
    simp only [List.cons_append, entsF, ents_snoc l (i + 1) y, List.length_cons]
    rw [show i + 1 + l.length = i + (l.length + 1) by omega]
theorem hdl_inj {i j : Nat} (h : hdl i = hdl j) : i = j := by unfold hdl at h; omega
theorem ents_at : ∀ (l : List An) (i j : Nat), u64At (entsF i l) (hdl (i + j)) = (l[j]?).map An.v
  | [], i, j => rfl
  | z :: l, i, 0 => by simp [entsF, u64At]
  | z :: l, i, j + 1 => by
    have t := ents_at l (i + 1) j
    have hne : (hdl (i + (j + 1)) == hdl i) = false := by rw [beq_eq_false_iff_ne]; intro e; have := hdl_inj e; omega
    simp only [entsF, u64At, List.find?_cons, hne, List.getElem?_cons_succ]
    rw [show i + (j + 1) = i + 1 + j by omega]
    exact t
def ArA.mut (A : ArA) (k : Nat) : Prop := k = A.ab ∨ k = A.lb ∨ k = A.mb ∨ k = A.g1
def An.kb (y : An) (k : Nat) : Prop := 0 < y.x.ks.length ∧ ∃ o, y.a = some ⟨k, o, none⟩
def ArA.foot (A : ArA) (ns : List An) (k : Nat) : Prop := A.mut k ∨ k = A.g0 ∨ k = A.g2 ∨ ∃ y ∈ ns, y.kb k
structure ArP (ns : List An) : Prop where
  ok : ∀ y ∈ ns, y.x.ok
  kids : ∀ (i : Nat) (y : An), ns[i]? = some y → ∀ k ∈ y.x.ks, k.at' < i ∧ ∃ z, ns[k.at']? = some z ∧ z.x.h + 1 = y.x.h ∧ z.x.ms = k.m
structure ArM (A : ArA) (w : World) (ns : List An) (st : Int) : Prop where
  a : Blk w A.ab 164 #[.int .i64 A.n, .pointer (some ⟨A.lb, 0, none⟩), .map (some A.mb), .int .i64 (ns.length : Int), .int .i64 0, .int .i64 st]
  l : Blk w A.lb 211 #[.slice (some ⟨A.g0, 0, none⟩) (A.n - ns.length) A.n, .slice (some ⟨A.g1, 0, none⟩) A.n A.n, .slice (some ⟨A.g2, 0, none⟩) A.n A.n, .int .u64 A.g]
  b0 : Blk w A.g0 3 (fillA (fun i => .int .i64 ((A.n : Int) - 1 - i)) (.int .i64 0) A.n A.n)
  b1 : Blk w A.g1 213 (fillA (fun _ => .int .u8 1) (.int .u8 0) A.n ns.length)
  b2 : Blk w A.g2 54 (fillA (fun _ => .int .u64 1) (.int .u64 0) A.n A.n)
  m : MapAt w A.mb (entsF 0 ns)
  le : ns.length ≤ A.n
  ks : ∀ y ∈ ns, InP Kd.cells 4 w y.kb y.a y.x.ks.length y.x.ks
  kd : ∀ y ∈ ns, ∀ k, y.kb k → ¬ A.mut k
  kn : ∀ y ∈ ns, y.x.ks = [] → y.a = none ∧ y.c = 0
theorem MapAt.lt {w : World} {B : Nat} {es : List (Int × Value)} (h : MapAt w B es) : B < w.heap.size := by
  obtain ⟨bs, _, hb⟩ := h
  exact (Array.getElem?_eq_some_iff.1 hb).1
theorem ArM.keep {A : ArA} {w w' : World} {ns : List An} {st : Int} {fp : Nat → Prop} (h : ArM A w ns st) (c : Ch fp w w') (hf : ∀ k, k < w.heap.size → A.foot ns k → ¬ fp k) : ArM A w' ns st where
  a := c.blk h.a (hf _ h.a.lt (.inl (.inl rfl)))
  l := c.blk h.l (hf _ h.l.lt (.inl (.inr (.inl rfl))))
  b0 := c.blk h.b0 (hf _ h.b0.lt (.inr (.inl rfl)))
  b1 := c.blk h.b1 (hf _ h.b1.lt (.inl (.inr (.inr (.inr rfl)))))
  b2 := c.blk h.b2 (hf _ h.b2.lt (.inr (.inr (.inl rfl))))
  m := h.m.ch c (hf _ h.m.lt (.inl (.inr (.inr (.inl rfl)))))
  le := h.le
  ks := fun y hy => (h.ks y hy).keep c (fun k hk hS => hf k hk (.inr (.inr (.inr ⟨y, hy, hS⟩)))) (fun _ _ h => h)
  kd := h.kd
  kn := h.kn
theorem ArM.keep0 {A : ArA} {w w' : World} {ns : List An} {st : Int} (h : ArM A w ns st) (c : Ch (fun _ => False) w w') : ArM A w' ns st := h.keep c (fun _ _ _ => id)
theorem ArM.foot_lt {A : ArA} {w : World} {ns : List An} {st : Int} (h : ArM A w ns st) {k : Nat} (hk : A.foot ns k) : k < w.heap.size := by
  rcases hk with (rfl | rfl | rfl | rfl) | rfl | rfl | ⟨y, hy, h0, o, ho⟩
  · exact h.a.lt
  · exact h.l.lt
  · exact h.m.lt
  · exact h.b1.lt
  · exact h.b0.lt
  · exact h.b2.lt
  · have t := h.ks y hy
    rw [ho] at t
    exact (t.lt h0).1
set_option maxRecDepth 100000 in
set_option maxHeartbeats 1000000 in
theorem freeM_len (n N : Nat) (lb g0 : Nat) (XS : List Int) (hn : n ≤ 16384) (hN : XS.length = N) (hnN : n ≤ N) (w : World) (hlb : lb < w.heap.size) (h0 : w.cell? ⟨lb, 0, none⟩ = some (.slice (some ⟨g0, 0, none⟩) n N)) (hb : Blk w g0 3 (i64s XS)) :
    Calls Tryz.prog 58 #[.pointer (some ⟨lb, 0, none⟩)] w fun e w' => ∃ A, e = .returned (.slice A n n) ∧ Ch (fun _ => False) w w' := by
  have hmk := fun W : World => run_make_x (P := Tryz.prog) 77 3 (.int .i64 0) 1 8 Tryz.underlying77 (by kernel_rfl) (by decide) n (by omega) W
  have hsz1 : (Tryz.prog.info? 3).map (·.size) = some 1 := by kernel_rfl
  obtain ⟨xs, hxs⟩ : ∃ xs, xs = XS.take n := ⟨_, rfl⟩
  have hx : xs.length = n := by rw [hxs, List.length_take]; omega
  have HXS := hid hxs
  clear hxs
  have HB := hid hb
  have Hx := hid hx
  clear hb hx
  go_enter Tryz.func58, Tryz.ntmps58
  go_wp2_with (refine wpList_copy_full rfl (.tmp 14) (.tmp 18) 77 77 rfl 3 Tryz.underlying77 1 hsz1 w.heap.size n n (some ⟨g0, 0, none⟩) N rfl rfl (madeX #[.int .i64 0] n) 3 ?k1 ?k2 (xs.map (Value.int .i64)) ?k3 ?k4 ?k5 ?k6)
  case k1 => exact Blk.push rfl
  case k2 => rw [madeX_size]; omega
  case k3 => rw [List.length_map, Hx.out]; omega
  case k4 =>
    intro _
    refine ⟨_, rfl, fun j v hj => ?_⟩
    rw [addr_add0]
    refine (World.cell?_alloc_lt w _ _ HB.out.lt).trans ((HB.out.cell j).trans ?_)
    rw [HXS.out, List.map_take] at hj
    have hjl : j < n := by
      have := (List.getElem?_eq_some_iff.1 hj).1
      rw [List.length_take] at this
      omega
    rw [List.getElem?_take_of_lt hjl] at hj
    simpa [i64s] using hj
  case k5 =>
    intro v hv
    obtain ⟨x, _, rfl⟩ := List.mem_map.1 hv
    rfl
  case k6 =>
    intro w1 hb hc
    have HC := hid (((Ch.refl (fun _ => False) w).alloc _).trans hc (fun i hi h => absurd hi (by omega)))
    have HG := hid (show Blk w1 w.heap.size 3 (i64s xs) from hb)
    clear hb hc h0 hlb hmk
    go_wp2_with fail
    go_loopw [4, 5] (fun i j W => ∃ (k : Nat) (ys : List Int), k ≤ n ∧ ys.length = n ∧ i = .int .i64 k ∧ j = .int .i64 ((n : Int) - 1 - k) ∧ Blk W w.heap.size 3 (i64s ys) ∧ Ch (fun _ => False) w W) (fun i _ _ => n - (intOf i).toNat)
    case atStart => exact ⟨0, xs, Nat.zero_le _, Hx.out, rfl, by simp, HG.out, HC.out⟩
    case round =>
      clear HG HC Hx
      obtain ⟨k, ys, hk, hl, rfl, rfl, hG, hC⟩ := hrel
      have HG := hid hG
      have HC := hid hC
      have HL := hid hl
      clear hG hC hl
      by_cases hlt : (k : Int) < (n : Int) - 1 - k
      · obtain ⟨m, hm⟩ : ∃ m : Nat, m = n - 1 - k := ⟨_, rfl⟩
        rw [show ((n : Int) - 1 - (k : Int)) = (m : Int) by omega] at hlt ⊢
        have hkm : k < m := by omega
        have hmn : m < n := by omega
        have hkn : k < n := by omega
        have hM := hid hm
        clear hm
        have e1 : decide ((k : Int) < (m : Int)) = true := decide_eq_true hlt
        have e2 : decide (k < m) = true := decide_eq_true hkm
        have ck : wr.cell? ⟨w.heap.size, k, none⟩ = some (.int .i64 (lk ys k)) := (HG.out.cell k).trans (i64s_get ys k (by rw [HL.out]; exact hkn))
        have cm : wr.cell? ⟨w.heap.size, m, none⟩ = some (.int .i64 (lk ys m)) := (HG.out.cell m).trans (i64s_get ys m (by rw [HL.out]; exact hmn))
        have fk := HG.out.free k
        have fm := HG.out.free m
        have d1 : k ≠ m := by omega
        have d2 : m ≠ k := by omega
        go_wp2_with fail
        refine Mix.wp_region_mix (fun _ => True) (fun i => ([0, 0, 1, 1, 0, 0, 0, 0, 0, 0, 0, 0, 0, 2, 0, 2] : List Nat).getD i 0) [0, 1, 2, 3, 4, 5, 6, 7, 8, 9, 10, 11, 12, 13, 14, 15] (by kernel_rfl) (by kernel_rfl) ?_
        repeat (first | (refine Mix.mix_q (by simp only [List.getElem?_toArray, List.getElem?_cons_zero, List.getElem?_cons_succ]; exact rfl) rfl ?_; go_big_quiet_step (fail); refine wpQuiet_nil ?_) | (refine Mix.mix_p (by simp only [List.getElem?_toArray, List.getElem?_cons_zero, List.getElem?_cons_succ]; exact rfl) rfl rfl ?_; go_big_quiet_step (fail); refine wpQuiet_nil ?_))
        refine Mix.mix_e (by simp only [List.getElem?_toArray, List.getElem?_cons_zero, List.getElem?_cons_succ]; exact rfl) rfl fun W1 hW1 => ?_
        obtain ⟨k1, rfl⟩ := hW1
        go_wp2_with fail
        refine Mix.mix_world fun W2 hW2 => ?_
        have G2 := hid (show Blk W2 w.heap.size 3 (i64s (ys.set k (lk ys m))) from by rw [hW2, ← i64s_set]; exact (HG.out.drewN k1).put k _)
        have C2 := hid (show Ch (fun _ => False) w W2 from by rw [hW2]; exact (HC.out.drewN k1).set (fun ho => absurd ho (Nat.lt_irrefl _)) _)
        have q1 : W2.cell? ⟨w.heap.size, m, none⟩ = some (.int .i64 (lk ys m)) := (G2.out.cell m).trans ((i64s_get _ m (by rw [List.length_set, HL.out]; exact hmn)).trans (by simp [lk, d1]))
        have q2 := G2.out.free m
        clear hW2 ck cm fk fm
        repeat (first | (refine Mix.mix_q (by simp only [List.getElem?_toArray, List.getElem?_cons_zero, List.getElem?_cons_succ]; exact rfl) rfl ?_; go_big_quiet_step (fail); refine wpQuiet_nil ?_) | (refine Mix.mix_p (by simp only [List.getElem?_toArray, List.getElem?_cons_zero, List.getElem?_cons_succ]; exact rfl) rfl rfl ?_; go_big_quiet_step (fail); refine wpQuiet_nil ?_))
        refine Mix.mix_e (by simp only [List.getElem?_toArray, List.getElem?_cons_zero, List.getElem?_cons_succ]; exact rfl) rfl fun W3 hW3 => ?_
        obtain ⟨k2, rfl⟩ := hW3
        go_wp2_with fail
        intro k3
        go_wp2_with fail
        refine ⟨⟨k + 1, (ys.set k (lk ys m)).set m (lk ys k), hkn, by simp [HL.out], by push_cast; rfl, ?_, ?_, ?_⟩, by simp only [intOf]; omega⟩
        · have := hM.out
          congr 1
          omega
        · rw [← i64s_set]; exact ((G2.out.drewN k2).put m _).drewN k3
        · exact ((C2.out.drewN k2).set (fun ho => absurd ho (Nat.lt_irrefl _)) _).drewN k3
      · have e1 : decide ((k : Int) < (n : Int) - 1 - k) = false := decide_eq_false hlt
        go_wp2_with fail
        go_ret
        exact ⟨⟨_, rfl⟩, HC.out⟩
set_option maxRecDepth 100000 in
set_option maxHeartbeats 1000000 in
theorem slotsM (n lb g1 : Nat) (hn : n ≤ 16384) (w : World) (h1 : w.cell? ⟨lb, 1, none⟩ = some (.slice (some ⟨g1, 0, none⟩) n n)) (m : Nat) (hb : ∀ k, k < n → w.cell? ⟨g1, k, none⟩ = some (if k < m then .int .u8 1 else .int .u8 0)) :
    Calls Tryz.prog 90 #[.pointer (some ⟨lb, 0, none⟩), .int .u8 2] w fun e w' => e = .returned (.slice none 0 0) ∧ w' = w := by
  have HB := hid hb
  clear hb
  go_enter Tryz.func90, Tryz.ntmps90
  go_wp2_with fail
  go_loopw [5, 16] (fun r i W => ∃ k : Nat, k ≤ n ∧ r = .slice none 0 0 ∧ i = .int .i64 k ∧ W = w) (fun _ i _ => n - (intOf i).toNat)
  case atStart => exact ⟨0, Nat.zero_le _, rfl, rfl, rfl⟩
  case round =>
    obtain ⟨k, hk, rfl, rfl, rfl⟩ := hrel
    by_cases hlt : k < n
    · have c := HB.out k hlt
      by_cases hkm : k < m
      · rw [if_pos hkm] at c
        go_wp2_with fail
        exact ⟨⟨k + 1, hlt, by simp⟩, by simp only [intOf]; omega⟩
      · rw [if_neg hkm] at c
        go_wp2_with fail
        exact ⟨⟨k + 1, hlt, by simp⟩, by simp only [intOf]; omega⟩
    · obtain rfl : k = n := by omega
      go_wp2_with fail
      go_ret
      exact ⟨rfl, rfl⟩
set_option maxRecDepth 100000 in
set_option maxHeartbeats 1000000 in
theorem wdM (n lb g1 : Nat) (hn : n ≤ 16384) (w : World) (h1 : w.cell? ⟨lb, 1, none⟩ = some (.slice (some ⟨g1, 0, none⟩) n n)) (m : Nat) (hb : ∀ k, k < n → w.cell? ⟨g1, k, none⟩ = some (if k < m then .int .u8 1 else .int .u8 0)) :
    Calls Tryz.prog 59 #[.pointer (some ⟨lb, 0, none⟩)] w fun e w' => e = .returned (.slice none 0 0) ∧ w' = w := by
  go_enter Tryz.func59, Tryz.ntmps59
  go_wp2_with fail
  refine (slotsM n lb g1 hn w h1 m hb).mono ?_
  rintro e _ ⟨rfl, rfl⟩
  go_wp2_with fail
  go_ret
  exact ⟨rfl, rfl⟩
theorem run_len_mapAt {P : Program} {w : World} {t ty : TypeId} {r : Nat} {l : List An} (h : P.underlying t = some (.map (P.mapKeyOf t) (P.mapElemOf t))) (hm : MapAt w r (entsF 0 l)) : (Builtin.len_ #[t] ty #[.map (some r)]).run P w = .ok (.int .i64 (l.length : Int)) w := by
  obtain ⟨bs, hl, hb⟩ := hm
  rw [run_len_map w t ty r _ _ h hb]
  rw [ents_len] at hl
  simp [hl, ents_len, goInt]
theorem wdM_q (n lb g1 : Nat) (hn : n ≤ 16384) (w : World) (h1 : w.cell? ⟨lb, 1, none⟩ = some (.slice (some ⟨g1, 0, none⟩) n n)) (m : Nat) (hb : ∀ k, k < n → w.cell? ⟨g1, k, none⟩ = some (if k < m then .int .u8 1 else .int .u8 0)) (k : Nat) :
    Calls Tryz.prog 59 #[.pointer (some ⟨lb, 0, none⟩)] (w.drewN k) fun e w' => e = .returned (.slice none 0 0) ∧ ∃ m, w' = w.drewN m :=
  (wdM n lb g1 hn (w.drewN k) (by rw [← h1]; rfl) m (fun j hj => by rw [← hb j hj]; rfl)).mono fun e w' h => ⟨h.1, k, h.2⟩
set_option maxRecDepth 100000 in
set_option maxHeartbeats 1000000 in
theorem statsM (A : ArA) (ns : List An) (st : Int) (hn : A.n ≤ 16384) (w : World) (h : ArM A w ns st) :
    Calls Tryz.prog 36 #[.pointer (some ⟨A.ab, 0, none⟩)] w fun e w' => e = .returned (.agg #[.int .i64 (A.n : Int), .int .i64 ((A.n - ns.length : Nat) : Int), .int .i64 (ns.length : Int), .int .i64 0, .int .i64 (ns.length : Int), .int .i64 0, .int .i64 st]) ∧ Ch (fun _ => False) w w' := by
  obtain ⟨ab, lb, mb, g0, g1, g2, n, g⟩ := A
  simp only at hn ⊢
  obtain ⟨K, hK⟩ : ∃ K, K = ns.length := ⟨_, rfl⟩
  obtain ⟨F, hF⟩ : ∃ F, F = n - ns.length := ⟨_, rfl⟩
  rw [← hF, ← hK]
  rw [← hK] at hF
  have hle : ns.length ≤ n := h.le
  have hKn : K ≤ 16384 := by omega
  have HK := hid hK
  have HF := hid hF
  have hFn : F ≤ n := by omega
  have hF16 : F ≤ 16384 := by omega
  clear hK hle hF
  go_enter Tryz.func36, Tryz.ntmps36
  go_wp2_with fail
  refine at_world fun W hW => ?_
  have cW : Ch (fun _ => False) w W := by rw [hW]; exact (Ch.refl _ w).alloc _
  have bR : Blk W w.heap.size 97 #[.int .i64 0, .int .i64 0, .int .i64 0, .int .i64 0, .int .i64 0, .int .i64 0, .int .i64 0] := by rw [hW]; exact Blk.new w _ _
  have HW := hid cW
  have HB := hid bR
  have HM := hid (h.keep0 cW)
  have hne : ab ≠ w.heap.size := Nat.ne_of_lt h.a.lt
  clear hW cW bR h
  obtain ⟨S, hS⟩ : ∃ S : Nat → Prop, ∀ k, S k ↔ k = ab := ⟨_, fun _ => Iff.rfl⟩
  have hSp : Mix.Has S ab := (hS _).2 rfl
  have HS := hid hS
  clear hS
  have a0 : W.cell? ⟨ab, 0, none⟩ = some (.int .i64 n) := HM.out.a.cell 0
  have a1 : W.cell? ⟨ab, 1, none⟩ = some (.pointer (some ⟨lb, 0, none⟩)) := HM.out.a.cell 1
  have a2 : W.cell? ⟨ab, 2, none⟩ = some (.map (some mb)) := HM.out.a.cell 2
  have a3 : W.cell? ⟨ab, 3, none⟩ = some (.int .i64 (K : Int)) := by rw [HK.out]; exact HM.out.a.cell 3
  have a4 : W.cell? ⟨ab, 4, none⟩ = some (.int .i64 0) := HM.out.a.cell 4
  have a5 : W.cell? ⟨ab, 5, none⟩ = some (.int .i64 st) := HM.out.a.cell 5
  refine Mix.wp_region_mix S (fun i => ([1, 1, 1, 4, 0, 0, 0, 4, 3, 0, 1, 1, 1, 4, 0, 1, 1, 1, 4, 0, 0, 1, 1, 1, 4, 1, 1, 1, 4, 1, 1, 1, 4, 0, 2] : List Nat).getD i 0) [0, 1, 2, 3, 4, 5, 6, 7, 10, 11, 12, 13, 15, 16, 17, 18, 21, 22, 23, 24, 25, 26, 27, 28, 29, 30, 31, 32, 8, 9, 14, 19, 20, 33, 34] (by kernel_rfl) (by kernel_rfl) ?_
  repeat (first | (refine Mix.mix_q (by simp only [List.getElem?_toArray, List.getElem?_cons_zero, List.getElem?_cons_succ]; exact rfl) rfl ?_; go_big_quiet_step (fail); refine wpQuiet_nil ?_) | (refine Mix.mix_p (by simp only [List.getElem?_toArray, List.getElem?_cons_zero, List.getElem?_cons_succ]; exact rfl) rfl rfl ?_; go_big_quiet_step (fail); refine wpQuiet_nil ?_) | (refine Mix.mix_s (by simp only [List.getElem?_toArray, List.getElem?_cons_zero, List.getElem?_cons_succ]; exact rfl) rfl rfl ?_; go_big_quiet_step (fail); refine wpQuiet_nil ?_))
  refine Mix.mix_a (by simp only [List.getElem?_toArray, List.getElem?_cons_zero, List.getElem?_cons_succ]; exact rfl) rfl fun W1 hW1 => ?_
  obtain ⟨k1, rfl⟩ := hW1
  go_wp2_with fail
  refine (freeM_len F n lb g0 ((List.range n).map (fun i : Nat => (n : Int) - 1 - i)) (by omega) (by simp) (by omega) (W.drewN k1) HM.out.l.lt (by rw [HF.out, HK.out]; exact HM.out.l.cell 0) (by rw [← fill_i64s (fun i : Nat => (n : Int) - 1 - i)]; exact HM.out.b0.drewN k1)).mono ?_
  rintro e w2 ⟨A, rfl, hc⟩
  have HC := hid (((Ch.refl (fun _ => False) W).drewN k1).trans hc (fun _ _ h => h))
  have HM2 := hid (HM.out.keep0 HC.out)
  clear hc
  go_wp2_with fail
  refine ⟨fun j' hj' => HC.out.block j' (Nat.lt_of_lt_of_le (by rw [(HS.out j').1 hj']; exact HM.out.a.lt) (Nat.le_refl _)) id, ?_⟩
  clear a0 a1 a2 a3 a4 a5
  (refine Mix.mix_q (by simp only [List.getElem?_toArray, List.getElem?_cons_zero, List.getElem?_cons_succ]; exact rfl) rfl ?_; go_big_quiet_step (fail); refine wpQuiet_nil ?_)
  repeat (first | (refine Mix.mix_q (by simp only [List.getElem?_toArray, List.getElem?_cons_zero, List.getElem?_cons_succ]; exact rfl) rfl ?_; go_big_quiet_step (fail); refine wpQuiet_nil ?_) | (refine Mix.mix_p (by simp only [List.getElem?_toArray, List.getElem?_cons_zero, List.getElem?_cons_succ]; exact rfl) rfl rfl ?_; go_big_quiet_step (fail); refine wpQuiet_nil ?_) | (refine Mix.mix_s (by simp only [List.getElem?_toArray, List.getElem?_cons_zero, List.getElem?_cons_succ]; exact rfl) rfl rfl ?_; go_big_quiet_step (fail); refine wpQuiet_nil ?_))
  refine Mix.mix_v (by simp only [List.getElem?_toArray, List.getElem?_cons_zero, List.getElem?_cons_succ]; exact rfl) rfl (.int .i64 (K : Int)) rfl (fun W' hW' => exec_len rfl rfl (by rw [HK.out]; exact run_len_mapAt (by kernel_rfl) (by obtain ⟨z, rfl⟩ := hW'; exact HM2.out.m))) ?_
  simp only [Act.put, List.setIfInBounds_toArray, List.set_cons_succ, List.set_cons_zero]
  repeat (first | (refine Mix.mix_q (by simp only [List.getElem?_toArray, List.getElem?_cons_zero, List.getElem?_cons_succ]; exact rfl) rfl ?_; go_big_quiet_step ((go_at_call 59; exact wdM_q n lb g1 hn _ (HM2.out.l.cell 1) K (fun k hk => by rw [HK.out]; exact (HM2.out.b1.cell k).trans (fillA_get _ _ _ _ _ hk)) _)); refine wpQuiet_nil ?_) | (refine Mix.mix_p (by simp only [List.getElem?_toArray, List.getElem?_cons_zero, List.getElem?_cons_succ]; exact rfl) rfl rfl ?_; go_big_quiet_step (fail); refine wpQuiet_nil ?_) | (refine Mix.mix_s (by simp only [List.getElem?_toArray, List.getElem?_cons_zero, List.getElem?_cons_succ]; exact rfl) rfl rfl ?_; go_big_quiet_step (fail); refine wpQuiet_nil ?_))
  have B2 := HC.out.blk HB.out id
  have r0 : w2.cell? ⟨w.heap.size, 0, none⟩ = some (.int .i64 0) := B2.cell 0
  have r1 : w2.cell? ⟨w.heap.size, 1, none⟩ = some (.int .i64 0) := B2.cell 1
  have r2 : w2.cell? ⟨w.heap.size, 2, none⟩ = some (.int .i64 0) := B2.cell 2
  have r3 : w2.cell? ⟨w.heap.size, 3, none⟩ = some (.int .i64 0) := B2.cell 3
  have r4 : w2.cell? ⟨w.heap.size, 4, none⟩ = some (.int .i64 0) := B2.cell 4
  have r5 : w2.cell? ⟨w.heap.size, 5, none⟩ = some (.int .i64 0) := B2.cell 5
  have r6 : w2.cell? ⟨w.heap.size, 6, none⟩ = some (.int .i64 0) := B2.cell 6
  have s0 := B2.free 0
  have s1 := B2.free 1
  have s2 := B2.free 2
  have s3 := B2.free 3
  have s4 := B2.free 4
  have s5 := B2.free 5
  have s6 := B2.free 6
  refine Mix.mix_e (by simp only [List.getElem?_toArray, List.getElem?_cons_zero, List.getElem?_cons_succ]; exact rfl) rfl fun W3 hW3 => ?_
  obtain ⟨k3, rfl⟩ := hW3
  go_wp2_with fail
  intro k4
  go_wp2_with fail
  refine at_world fun W7 hW7 => ?_
  have B7 : Blk W7 w.heap.size 97 #[.int .i64 (n : Int), .int .i64 (F : Int), .int .i64 (K : Int), .int .i64 0, .int .i64 (K : Int), .int .i64 0, .int .i64 st] := by rw [hW7]; exact (((((((((B2.drewN k3).put 0 _).put 1 _).put 2 _).put 3 _).put 4 _).put 5 _).put 6 _)).drewN k4
  have c7 : Ch (fun k => k = w.heap.size) w2 W7 := by rw [hW7]; exact ((((((((((Ch.refl (fun k => k = w.heap.size) w2).drewN k3).set (fun _ => rfl) _).set (fun _ => rfl) _).set (fun _ => rfl) _).set (fun _ => rfl) _).set (fun _ => rfl) _).set (fun _ => rfl) _).set (fun _ => rfl) _)).drewN k4
  have t0 : W7.cell? ⟨w.heap.size, 0, none⟩ = some (.int .i64 n) := B7.cell 0
  have t1 : W7.cell? ⟨w.heap.size, 1, none⟩ = some (.int .i64 (F : Int)) := B7.cell 1
  have t2 : W7.cell? ⟨w.heap.size, 2, none⟩ = some (.int .i64 (K : Int)) := B7.cell 2
  have t3 : W7.cell? ⟨w.heap.size, 3, none⟩ = some (.int .i64 0) := B7.cell 3
  have t4 : W7.cell? ⟨w.heap.size, 4, none⟩ = some (.int .i64 (K : Int)) := B7.cell 4
  have t5 : W7.cell? ⟨w.heap.size, 5, none⟩ = some (.int .i64 0) := B7.cell 5
  have t6 : W7.cell? ⟨w.heap.size, 6, none⟩ = some (.int .i64 st) := B7.cell 6
  refine bodyPost_ret (v := .agg #[.int .i64 (n : Int), .int .i64 (F : Int), .int .i64 (K : Int), .int .i64 0, .int .i64 (K : Int), .int .i64 0, .int .i64 st]) ?_ rfl ⟨rfl, (HW.out.trans HC.out (fun _ _ h => h)).trans c7 (fun i hi e => absurd hi (by omega))⟩
  clear hW7 c7
  simp [results, Tryz.results36, go_sem, t0, t1, t2, t3, t4, t5, t6]
end Go.Proofs.YtjcdknhejcbpiaaGreat
