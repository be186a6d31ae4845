/- Texts XChunk for XPcs, by trim.py. -/
import Derived.Test.YtjcdknhejcbpiaaGreatPb11
import Derived.Test.YtjcdknhejcbpiaaGreatPb04
namespace Go.Proofs.YtjcdknhejcbpiaaGreat
open Go.RowKit
set_option linter.unusedVariables false
set_option linter.unusedSimpArgs false
set_option linter.unusedSectionVars false
def intsV (l : List Nat) : List Value := l.map fun n => .int .i64 (Int.ofNat n)
def strsV (l : List ByteArray) : List Value := l.map .string
theorem tdiv_nat (a b : Nat) : (a : Int).tdiv (b : Int) = ((a / b : Nat) : Int) := by rw [Int.ofNat_tdiv]
theorem tmod_nat (a b : Nat) : (a : Int).tmod (b : Int) = ((a % b : Nat) : Int) := by rw [Int.ofNat_tmod]
theorem div_small {a b c : Nat} (h : a ≤ c) : a / b ≤ c := Nat.le_trans (Nat.div_le_self a b) h
set_option maxHeartbeats 1000000 in
theorem size1_any (bn bg n g i : Nat) (w : World) (h1 : w.cell? ⟨bn, 0, none⟩ = some (.int .i64 (n : Int))) (h2 : w.cell? ⟨bg, 0, none⟩ = some (.int .i64 (g : Int))) (hn : n ≤ 1000000) (hg : 0 < g) (hg' : g ≤ 1000000) :
    Calls Tryz.prog 155 #[.int .i64 (i : Int), .pointer (some ⟨bn, 0, none⟩), .pointer (some ⟨bg, 0, none⟩)] w fun e w' => e = .returned (.int .i64 ((szAt n g i : Nat) : Int)) ∧ w = w' := by
  have hd := hid (div_small (b := g) hn)
  have hm := Nat.mod_lt n hg
  have e1 : (n : Int).tdiv (g : Int) = ((n / g : Nat) : Int) := tdiv_nat n g
  have e2 : (n : Int).tmod (g : Int) = ((n % g : Nat) : Int) := tmod_nat n g
  obtain ⟨q, hq⟩ : ∃ q, q = n / g := ⟨_, rfl⟩
  obtain ⟨r, hr⟩ : ∃ r, r = n % g := ⟨_, rfl⟩
  rw [← hq] at e1 hd
  rw [← hr] at e2 hm
  have hqn := hd.out
  have HR := hid hr
  have HQ := hid hq
  clear hr hq hd
  have nz : ((g : Int) == 0) = false := by rw [beq_eq_false_iff_ne]; omega
  go_enter Tryz.func155, Tryz.ntmps155
  by_cases hi : i < r
  · have d1 : decide (i < r) = true := decide_eq_true hi
    have d2 : decide ((i : Int) < (r : Int)) = true := decide_eq_true (by omega)
    go_wp2_with fail
    go_ret
    refine ⟨?_, rfl⟩
    unfold szAt
    rw [← HR.out, ← HQ.out, if_pos hi]
    push_cast
    rfl
  · have d1 : decide (i < r) = false := decide_eq_false hi
    have d2 : decide ((i : Int) < (r : Int)) = false := decide_eq_false (by omega)
    go_wp2_with fail
    go_ret
    refine ⟨?_, rfl⟩
    unfold szAt
    rw [← HR.out, ← HQ.out, if_neg hi]
    rfl
theorem own_of_blk {w : World} {B g n size : Nat} {e : TypeId} {cs : Array Value} (h : Blk w g e cs) (hB : B ≤ g) (hs : cs.size = n * size) (hn : n ≤ maxLen) : w.ownsRow B e size (.slice (some ⟨g, 0, none⟩) n n) n cs.toList :=
  ⟨by simpa using hs, .inr ⟨g, n, cs, rfl, hB, h, Nat.le_refl _, hn, hs, by rw [← hs, ← Array.length_toList, List.take_length]⟩⟩
def OwnInts (w w' : World) (l : List Nat) (e : Ending) : Prop := ∃ v, e = .returned v ∧ w'.ownsRow w.heap.size 3 1 v l.length (intsV l) ∧ Ch (fun _ => False) w w'
theorem fill_sizes (n m : Nat) : (fillA (fun i => .int .i64 ((szAt n (grpN n m) i : Nat) : Int)) (.int .i64 0) (grpN n m) (grpN n m)).toList = intsV (sizesN n m) := by
  simp only [fillA, intsV, sizesN, List.map_map]
  apply List.map_congr_left
  intro i hi
  rw [if_pos (List.mem_range.1 hi)]
  rfl
set_option maxHeartbeats 1000000 in
theorem sizes_any (n m : Nat) (hm : 0 < m) (hm' : m ≤ 100000) (hn : n ≤ 100000) (w : World) :
    Calls Tryz.prog 142 #[.int .i64 (n : Int), .int .i64 (m : Int)] w fun e w' => OwnInts w w' (sizesN n m) e := by
  go_enter Tryz.func142, Tryz.ntmps142
  by_cases h0 : n = 0
  · subst h0
    go_wp2_with fail
    go_ret
    have e0 : sizesN 0 m = [] := by simp [sizesN, grpN]
    exact ⟨.slice none 0 0, rfl, by rw [e0]; exact World.ownsRow_nil _ _ _ _, (Ch.refl (fun _ => False) w).alloc _⟩
  have hg0 := grp_pos (by omega : 0 < n) hm
  have hgm := (grp_le (n := n) hm).2
  have hgl : grpN n m ≤ 100000 := by
    have : grpN n m ≤ n := by
      have h1 := grp_le (n := n) hm
      rcases Nat.lt_or_ge n (grpN n m) with e | e
      · exfalso
        have h2 : m * (n + 1) ≤ m * grpN n m := Nat.mul_le_mul_left _ e
        have h3 : m * (n + 1) = m * n + m := Nat.mul_succ _ _
        have h4 : 1 * n ≤ m * n := Nat.mul_le_mul_right _ hm
        omega
      · exact e
    omega
  have hgd := hid (show grpN n m = n / m + (if 0 < n % m then 1 else 0) from rfl)
  have e1 : (n : Int).tdiv (m : Int) = ((n / m : Nat) : Int) := tdiv_nat n m
  have e2 : (n : Int).tmod (m : Int) = ((n % m : Nat) : Int) := tmod_nat n m
  have hq0 := div_small (b := m) hn
  obtain ⟨q, hq⟩ : ∃ q, q = n / m := ⟨_, rfl⟩
  obtain ⟨r, hr⟩ : ∃ r, r = n % m := ⟨_, rfl⟩
  rw [← hq] at e1 hq0
  rw [← hr] at e2
  have hgd := hid (show grpN n m = q + (if 0 < r then 1 else 0) by rw [hgd.out, hq, hr])
  obtain ⟨g, hg⟩ : ∃ g, g = grpN n m := ⟨_, rfl⟩
  rw [← hg] at hg0 hgl hgd
  have HG := hid hg
  clear hq hr hg hgm
  have b0 : ((n : Int) == 0) = false := by rw [beq_eq_false_iff_ne]; omega
  have nz : ((m : Int) == 0) = false := by rw [beq_eq_false_iff_ne]; omega
  have hmk : ∀ W : World, (Instr.makeSlice 77 (.int .i64 (g : Int)) (.int .i64 (g : Int))).run Tryz.prog W = .ok (.slice (some ⟨W.heap.size, 0, none⟩) g g) (W.alloc (.cells (madeX (Value.cells (.int .i64 0)) (g * 1)) 3)) := fun W => run_make_x (P := Tryz.prog) 77 3 (.int .i64 0) 1 8 Tryz.underlying77 (by kernel_rfl) (by decide) g (by omega) W
  by_cases hr : 0 < r
  · obtain rfl : g = q + 1 := by have := hgd.out; rw [if_pos hr] at this; exact this
    have d1 : decide (0 < r) = true := decide_eq_true hr
    have d2 : decide ((0 : Int) < (r : Int)) = true := decide_eq_true (by omega)
    have hmk' : ∀ W : World, (Instr.makeSlice 77 (.int .i64 ((q : Int) + 1)) (.int .i64 ((q : Int) + 1))).run Tryz.prog W = .ok (.slice (some ⟨W.heap.size, 0, none⟩) (q + 1) (q + 1)) (W.alloc (.cells (madeX (Value.cells (.int .i64 0)) ((q + 1) * 1)) 3)) := fun W => by have := hmk W; push_cast at this; exact this
    clear hmk
    go_wp2_with fail
    refine at_world fun W0 hW0 => ?_
    have C0 := hid (show Ch (fun _ => False) w W0 from by rw [hW0]; exact (((Ch.refl (fun _ => False) w).alloc _).alloc _).alloc _)
    have B0 := hid (show Blk W0 w.heap.size 3 #[.int .i64 (n : Int)] from by rw [hW0]; exact ((Blk.new w _ _).alloc _).alloc _)
    have G0 := hid (show Blk W0 (w.heap.size + 1) 3 #[.int .i64 ((q : Int) + 1)] from by
      rw [hW0]
      have t := (Blk.new (w.alloc (.cells #[.int .i64 (n : Int)] 3)) 3 #[.int .i64 ((q : Int) + 1)]).alloc (.cells (madeX #[.int .i64 0] (q + 1)) 3)
      simpa using t)
    have M0 := hid (show Blk W0 (w.heap.size + 2) 3 (fillA (fun i => .int .i64 ((szAt n (q + 1) i : Nat) : Int)) (.int .i64 0) (q + 1) 0) from by
      rw [hW0, ← fillA_zero]
      have t := Blk.new ((w.alloc (.cells #[.int .i64 (n : Int)] 3)).alloc (.cells #[.int .i64 ((q : Int) + 1)] 3)) 3 (madeX #[.int .i64 0] (q + 1))
      simpa using t)
    clear hW0
    go_loopw [24] (fun i W => ∃ k, k ≤ (q + 1) ∧ i = .int .i64 ((k : Nat) : Int) ∧ Blk W (w.heap.size + 2) 3 (fillA (fun i => .int .i64 ((szAt n (q + 1) i : Nat) : Int)) (.int .i64 0) (q + 1) k) ∧ Blk W w.heap.size 3 #[.int .i64 (n : Int)] ∧ Blk W (w.heap.size + 1) 3 #[.int .i64 ((q : Int) + 1)] ∧ Ch (fun _ => False) w W) (fun i _ => (q + 1) - (intOf i).toNat)
    case atStart => exact ⟨0, Nat.zero_le _, rfl, M0.out, B0.out, G0.out, C0.out⟩
    case round =>
      clear C0 B0 G0 M0
      obtain ⟨k, hk, rfl, hM, hB, hG, hC⟩ := hrel
      by_cases hlt : k < (q + 1)
      · have c1 : wr.cell? ⟨w.heap.size, 0, none⟩ = some (.int .i64 (n : Int)) := hB.cell 0
        have c2 : wr.cell? ⟨w.heap.size + 1, 0, none⟩ = some (.int .i64 ((q : Int) + 1)) := hG.cell 0
        have c3 : wr.cell? ⟨w.heap.size + 2, k, none⟩ = some (if k < k then .int .i64 ((szAt n (q + 1) k : Nat) : Int) else .int .i64 0) := (hM.cell k).trans (fillA_get _ _ _ _ _ hlt)
        have c4 := hM.free k
        have x1 : decide (k < (q + 1)) = true := decide_eq_true hlt
        have x2 : decide ((k : Int) < ((q : Int) + 1)) = true := decide_eq_true (by omega)
        have HM := hid hM
        have HB := hid hB
        have HGG := hid hG
        have HC := hid hC
        clear hM hB hG hC
        go_wp2_with fail
        refine (size1_any w.heap.size (w.heap.size + 1) n (q + 1) k wr c1 (by push_cast; exact c2) (by omega) (by omega) (by omega)).mono ?_
        rintro e w' ⟨rfl, rfl⟩
        go_wp2_with fail
        go_roundw
        case rel =>
          refine ⟨k + 1, by omega, by go_num, ?_, HB.out.far (by show w.heap.size ≠ w.heap.size + 2; omega) _, HGG.out.far (by show w.heap.size + 1 ≠ w.heap.size + 2; omega) _, HC.out.set (fun h => absurd h (by omega)) _⟩
          rw [← fillA_set (fun i => .int .i64 ((szAt n (q + 1) i : Nat) : Int)) (.int .i64 0) (q + 1) k hlt]
          exact HM.out.put k _
        case measure => simp [intOf]; omega
      · obtain rfl : (q + 1) = k := by omega
        have x1 : decide ((q + 1) < (q + 1)) = false := decide_eq_false (by omega)
        go_wp2_with fail
        go_ret
        refine ⟨_, rfl, ?_, hC⟩
        have t := own_of_blk (size := 1) (n := (q + 1)) hM (by omega : w.heap.size ≤ w.heap.size + 2) (by rw [fillA_size]; omega) (by unfold maxLen; omega)
        rw [show (fillA (fun i => .int .i64 ((szAt n (q + 1) i : Nat) : Int)) (.int .i64 0) (q + 1) (q + 1)).toList = intsV (sizesN n m) from by rw [HG.out]; exact fill_sizes n m] at t
        rw [sizes_len, ← HG.out]
        exact t
  · obtain rfl : g = q := by have := hgd.out; rw [if_neg hr] at this; exact this
    have d1 : decide (0 < r) = false := decide_eq_false hr
    have d2 : decide ((0 : Int) < (r : Int)) = false := decide_eq_false (by omega)
    go_wp2_with fail
    refine at_world fun W0 hW0 => ?_
    have C0 := hid (show Ch (fun _ => False) w W0 from by rw [hW0]; exact (((Ch.refl (fun _ => False) w).alloc _).alloc _).alloc _)
    have B0 := hid (show Blk W0 w.heap.size 3 #[.int .i64 (n : Int)] from by rw [hW0]; exact ((Blk.new w _ _).alloc _).alloc _)
    have G0 := hid (show Blk W0 (w.heap.size + 1) 3 #[.int .i64 (g : Int)] from by
      rw [hW0]
      have t := (Blk.new (w.alloc (.cells #[.int .i64 (n : Int)] 3)) 3 #[.int .i64 (g : Int)]).alloc (.cells (madeX #[.int .i64 0] g) 3)
      simpa using t)
    have M0 := hid (show Blk W0 (w.heap.size + 2) 3 (fillA (fun i => .int .i64 ((szAt n g i : Nat) : Int)) (.int .i64 0) g 0) from by
      rw [hW0, ← fillA_zero]
      have t := Blk.new ((w.alloc (.cells #[.int .i64 (n : Int)] 3)).alloc (.cells #[.int .i64 (g : Int)] 3)) 3 (madeX #[.int .i64 0] g)
      simpa using t)
    clear hW0
    go_loopw [24] (fun i W => ∃ k, k ≤ g ∧ i = .int .i64 ((k : Nat) : Int) ∧ Blk W (w.heap.size + 2) 3 (fillA (fun i => .int .i64 ((szAt n g i : Nat) : Int)) (.int .i64 0) g k) ∧ Blk W w.heap.size 3 #[.int .i64 (n : Int)] ∧ Blk W (w.heap.size + 1) 3 #[.int .i64 (g : Int)] ∧ Ch (fun _ => False) w W) (fun i _ => g - (intOf i).toNat)
    case atStart => exact ⟨0, Nat.zero_le _, rfl, M0.out, B0.out, G0.out, C0.out⟩
    case round =>
      clear C0 B0 G0 M0
      obtain ⟨k, hk, rfl, hM, hB, hG, hC⟩ := hrel
      by_cases hlt : k < g
      · have c1 : wr.cell? ⟨w.heap.size, 0, none⟩ = some (.int .i64 (n : Int)) := hB.cell 0
        have c2 : wr.cell? ⟨w.heap.size + 1, 0, none⟩ = some (.int .i64 (g : Int)) := hG.cell 0
        have c3 : wr.cell? ⟨w.heap.size + 2, k, none⟩ = some (if k < k then .int .i64 ((szAt n g k : Nat) : Int) else .int .i64 0) := (hM.cell k).trans (fillA_get _ _ _ _ _ hlt)
        have c4 := hM.free k
        have x1 : decide (k < g) = true := decide_eq_true hlt
        have x2 : decide ((k : Int) < (g : Int)) = true := decide_eq_true (by omega)
        have HM := hid hM
        have HB := hid hB
        have HGG := hid hG
        have HC := hid hC
        clear hM hB hG hC
        go_wp2_with fail
        refine (size1_any w.heap.size (w.heap.size + 1) n g k wr c1 (by push_cast; exact c2) (by omega) (by omega) (by omega)).mono ?_
        rintro e w' ⟨rfl, rfl⟩
        go_wp2_with fail
        go_roundw
        case rel =>
          refine ⟨k + 1, by omega, by go_num, ?_, HB.out.far (by show w.heap.size ≠ w.heap.size + 2; omega) _, HGG.out.far (by show w.heap.size + 1 ≠ w.heap.size + 2; omega) _, HC.out.set (fun h => absurd h (by omega)) _⟩
          rw [← fillA_set (fun i => .int .i64 ((szAt n g i : Nat) : Int)) (.int .i64 0) g k hlt]
          exact HM.out.put k _
        case measure => simp [intOf]; omega
      · obtain rfl : g = k := by omega
        have x1 : decide (g < g) = false := decide_eq_false (by omega)
        go_wp2_with fail
        go_ret
        refine ⟨_, rfl, ?_, hC⟩
        have t := own_of_blk (size := 1) (n := g) hM (by omega : w.heap.size ≤ w.heap.size + 2) (by rw [fillA_size]; omega) (by unfold maxLen; omega)
        rw [show (fillA (fun i => .int .i64 ((szAt n g i : Nat) : Int)) (.int .i64 0) g g).toList = intsV (sizesN n m) from by rw [HG.out]; exact fill_sizes n m] at t
        rw [sizes_len, ← HG.out]
        exact t
set_option maxHeartbeats 1000000 in
theorem even_any (n m : Nat) (hm : 0 < m) (hm' : m ≤ 100000) (hn : n ≤ 65536) (w : World) :
    Calls Tryz.prog 117 #[.int .i64 (n : Int), .int .i64 (m : Int)] w fun e w' => ∃ v, e = .returned (.tuple #[v, .int .i64 0]) ∧ w'.ownsRow w.heap.size 3 1 v (sizesN n m).length (intsV (sizesN n m)) ∧ Ch (fun _ => False) w w' := by
  have a1 : decide ((n : Int) < 0) = false := decide_eq_false (by omega)
  have a2 : decide ((m : Int) < 1) = false := decide_eq_false (by omega)
  have a3 : decide ((65536 : Int) < (n : Int)) = false := decide_eq_false (by omega)
  have a4 : decide (65536 < n) = false := decide_eq_false (by omega)
  go_enter Tryz.func117, Tryz.ntmps117
  go_wp2_with fail
  refine (sizes_any n m hm hm' (by omega) w).mono ?_
  rintro e w' ⟨v, rfl, ho, hc⟩
  go_wp2_with fail
  go_ret2
  exact ⟨_, rfl, ho, hc⟩
def OwnStrs (w w' : World) (l : List ByteArray) (e : Ending) : Prop := ∃ v, e = .returned v ∧ w'.ownsRow w.heap.size 9 1 v l.length (strsV l) ∧ Ch (fun _ => False) w w'
theorem infoStr : (Tryz.prog.info? 9).map (fun i => (i.zero, i.size, i.bytes)) = some (some (Value.string ByteArray.empty), 1, 16) := by kernel_rfl
set_option maxHeartbeats 1000000 in
theorem chunks_any (s : ByteArray) (hs : s.size ≤ 65536) (w : World) :
    Calls Tryz.prog 116 #[.string s] w fun e w' => OwnStrs w w' (chunksS s) e := by
  obtain ⟨i0, hi, hz0, hz1, hz2⟩ := info_parts infoStr
  have hsum := sizes_sum s.size 16 (by decide)
  obtain ⟨ns, hns⟩ : ∃ ns, ns = sizesN s.size 16 := ⟨_, rfl⟩
  have hch : chunksS s = cutS ns s := by rw [hns]; rfl
  have hnl : ns.length ≤ 10000 := by
    rw [hns, sizes_len]
    have := (grp_le (n := s.size) (m := 16) (by decide)).2
    omega
  rw [← hns] at hsum
  rw [hch]
  have HNS := hid hns
  clear hns hch
  go_enter Tryz.func116, Tryz.ntmps116
  go_wp2_with fail
  refine (sizes_any s.size 16 (by decide) (by decide) (by omega) w).mono ?_
  rintro e w1 ⟨v1, rfl, ho1, hc1⟩
  rw [← HNS.out] at ho1
  obtain ⟨A1, cap1, rfl, _⟩ := own_slice ho1
  have HO := hid ho1
  have HC := hid hc1
  clear ho1 hc1
  go_wp2_with fail
  go_loopw [0, 3, 10] (fun x v i W => ∃ (k : Nat) (r : ByteArray), k ≤ ns.length ∧ i = .int .i64 (k : Int) ∧ x = .string r ∧ (cutS ns s).drop k = cutS (ns.drop k) r ∧ (ns.drop k).sum = r.size ∧ W.ownsRow w1.heap.size 9 1 v k (strsV ((cutS ns s).take k)) ∧ Ch (fun _ => False) w1 W) (fun _ _ i _ => ns.length - (intOf i).toNat)
  case atStart => exact ⟨0, s, Nat.zero_le _, rfl, rfl, rfl, hsum, World.ownsRow_nil _ _ _ _, Ch.refl _ _⟩
  case round =>
    obtain ⟨k, r, hk, rfl, rfl, hd, hr, hown, hch⟩ := hrel
    by_cases hlt : k < ns.length
    · obtain ⟨g, cg, hv, _, _, _, hgl⟩ := own_form HO.out (by omega)
      injection hv with hA _ hcg
      subst hA hcg
      obtain ⟨z, hz⟩ : ∃ z, ns[k]? = some z := ⟨_, List.getElem?_eq_getElem hlt⟩
      have c0 : wr.cell? ⟨g, k, none⟩ = some (.int .i64 (z : Int)) := by
        have t := HO.out.cells (g := g) rfl k _ (by rw [intsV, List.getElem?_map, hz]; rfl)
        rw [addr_add0] at t
        exact (hch.cell (p := ⟨g, _, none⟩) hgl id).trans t
      have hzr : z ≤ r.size := by
        rw [← hr, List.drop_eq_getElem_cons hlt]
        have := (List.getElem?_eq_some_iff.1 hz).2
        simp [this]
      have hd1 : (cutS ns s)[k]? = some (r.extract 0 z) := by
        have t : ((cutS ns s).drop k)[0]? = (cutS (ns.drop k) r)[0]? := by rw [hd]
        rw [List.getElem?_drop, Nat.add_zero] at t
        rw [t, List.drop_eq_getElem_cons hlt, (List.getElem?_eq_some_iff.1 hz).2]
        rfl
      have hd2 : (cutS ns s).drop (k + 1) = cutS (ns.drop (k + 1)) (r.extract z r.size) := by
        have t : ((cutS ns s).drop k).drop 1 = (cutS (ns.drop k) r).drop 1 := by rw [hd]
        rw [List.drop_drop] at t
        rw [t, List.drop_eq_getElem_cons hlt, (List.getElem?_eq_some_iff.1 hz).2]
        rfl
      have hr2 : (ns.drop (k + 1)).sum = (r.extract z r.size).size := by
        rw [ByteArray.size_extract]
        rw [List.drop_eq_getElem_cons hlt, (List.getElem?_eq_some_iff.1 hz).2, List.sum_cons] at hr
        omega
      have htk : strsV ((cutS ns s).take (k + 1)) = strsV ((cutS ns s).take k) ++ [.string (r.extract 0 z)] := by
        have hkl := List.getElem?_eq_some_iff.1 hd1
        rw [List.take_succ_eq_append_getElem hkl.1, hkl.2]
        simp [strsV]
      have Htk := hid htk
      have HD := hid hd2
      have HR := hid hr2
      have hr65 : r.size ≤ 65536 := by
        have : ((ns.take k).sum + (ns.drop k).sum) = ns.sum := by rw [← List.sum_append, List.take_append_drop]
        omega
      clear hd1 hd2 hr2 htk hd hr hz
      obtain ⟨A0, cap0, hv0, _⟩ := own_slice hown
      subst hv0
      have x1 : decide (k < ns.length) = true := decide_eq_true hlt
      have x2 : decide ((k : Int) < (ns.length : Int)) = true := decide_eq_true (by omega)
      go_wp2_with (at_builtin; refine wpList_app _ rfl (.tmp 14) (.tmp 18) 237 rfl w1.heap.size 9 i0 _ 1 16 Tryz.underlying237 hi hz0 hz1 hz2 rfl (by decide) _ _ _ rfl (hown.alloc _) ⟨wr.heap.size, 0, none⟩ 1 1 [.string (r.extract 0 z)] rfl rfl ?c1 ?c2 (by decide) ?c3 ?c4 ?c5 ?c6)
      case c2 => rfl
      case c3 => unfold maxLen; omega
      case c4 => omega
      case c5 => exact Nat.le_trans hch.size (by simp)
      case c6 =>
        intro v' w' hown' hgrow hfresh
        have hch' : Ch (fun _ => False) w1 w' := (hch.alloc _).grown hgrow (fun g hg hl => by
          have := (hown.lt g hg).1
          omega)
        go_wp2_with fail
        go_roundw
        case rel => exact ⟨k + 1, r.extract z r.size, by omega, by go_num, rfl, HD.out, HR.out, by rw [Htk.out]; exact hown', hch'⟩
        case measure => simp [intOf]; omega
    · obtain rfl : k = ns.length := by omega
      have x1 : decide (ns.length < ns.length) = false := decide_eq_false (by omega)
      go_wp2_with fail
      go_ret
      rw [List.take_of_length_le (by rw [cutS_len]; exact Nat.le_refl _)] at hown
      exact ⟨_, rfl, by rw [cutS_len]; exact own_mono hown HC.out.size, HC.out.trans hch (fun _ _ h => h)⟩
end Go.Proofs.YtjcdknhejcbpiaaGreat
