/- Lemmas that the proof of the last text leans on; no condition. -/
import Derived.Test.YtjcdknhejcbpiaaGreatNb13
namespace Go.Proofs.YtjcdknhejcbpiaaGreat
open Go.RowKit
set_option linter.unusedVariables false
set_option linter.unusedSimpArgs false
set_option linter.unusedSectionVars false
set_option maxRecDepth 100000
def InP {α : Type} (cells : α → List Value) (sz : Nat) (w : World) (S : Nat → Prop) (a : Option Addr) (n : Nat) (l : List α) : Prop :=
  l.length = n ∧ (0 < n → ∃ b off, a = some ⟨b, off, none⟩ ∧ S b ∧ b < w.heap.size ∧ ∀ (i j : Nat) (x : α) (v : Value), l[i]? = some x → (cells x)[j]? = some v → w.cell? ⟨b, off + (i * sz + j), none⟩ = some v)
theorem InP.keep {α : Type} {cells : α → List Value} {sz : Nat} {w w' : World} {S S' fp : Nat → Prop} {a : Option Addr} {n : Nat} {l : List α} (h : InP cells sz w S a n l) (c : Ch fp w w') (hS : ∀ k, k < w.heap.size → S k → ¬ fp k) (hS' : ∀ k, k < w.heap.size → S k → S' k) : InP cells sz w' S' a n l := by
  refine ⟨h.1, fun h0 => ?_⟩
  obtain ⟨b, off, rfl, hb, hlt, hc⟩ := h.2 h0
  exact ⟨b, off, rfl, hS' b hlt hb, Nat.lt_of_lt_of_le hlt c.size, fun i j x v hi hj => (c.cell (p := ⟨b, _, none⟩) hlt (hS b hlt hb)).trans (hc i j x v hi hj)⟩
theorem InP.nil {α : Type} (cells : α → List Value) (sz : Nat) (w : World) (S : Nat → Prop) (a : Option Addr) : InP cells sz w S a 0 [] := ⟨rfl, fun h => absurd h (by decide)⟩
theorem InP.some {α : Type} {cells : α → List Value} {sz : Nat} {w : World} {S : Nat → Prop} {a : Option Addr} {n : Nat} {l : List α} (h : InP cells sz w S a n l) (h0 : 0 < n) : ∃ b off, a = Option.some ⟨b, off, none⟩ := by
  obtain ⟨b, off, hv, _⟩ := h.2 h0
  exact ⟨b, off, hv⟩
theorem InP.at {α : Type} {cells : α → List Value} {sz : Nat} {w : World} {S : Nat → Prop} {b off n : Nat} {l : List α} (h : InP cells sz w S (Option.some ⟨b, off, none⟩) n l) (i : Nat) (x : α) (hi : l[i]? = Option.some x) (j : Nat) (v : Value) (hj : (cells x)[j]? = Option.some v) : w.cell? ⟨b, off + (i * sz + j), none⟩ = Option.some v := by
  have hlt := (List.getElem?_eq_some_iff.1 hi).1
  obtain ⟨b', off', hv, _, _, hc⟩ := h.2 (by have := h.1; omega)
  injection hv with hv
  injection hv with h1 h2
  subst h1 h2
  exact hc i j x v hi hj
theorem InP.lt {α : Type} {cells : α → List Value} {sz : Nat} {w : World} {S : Nat → Prop} {b off n : Nat} {l : List α} (h : InP cells sz w S (Option.some ⟨b, off, none⟩) n l) (h0 : 0 < n) : b < w.heap.size ∧ S b := by
  obtain ⟨b', off', hv, hs, hl, _⟩ := h.2 h0
  injection hv with hv
  injection hv with h1 h2
  subst h1
  exact ⟨hl, hs⟩
theorem flatP {α : Type} {cells : α → List Value} {sz : Nat} (hz : ∀ x, (cells x).length = sz) : ∀ (l : List α) (i j : Nat) (x : α) (v : Value), l[i]? = some x → (cells x)[j]? = some v → (l.flatMap cells)[i * sz + j]? = some v
  | [], i, j, x, v, h, _ => by simp at h
  | y :: l, 0, j, x, v, h, hv => by
    injection h with h
    subst h
    rw [List.flatMap_cons, Nat.zero_mul, Nat.zero_add, List.getElem?_append_left (List.getElem?_eq_some_iff.1 hv).1]
    exact hv
  | y :: l, i + 1, j, x, v, h, hv => by
    have t := flatP hz l i j x v (by simpa using h) hv
    have hy := hz y
    rw [List.flatMap_cons, Nat.succ_mul, List.getElem?_append_right (by omega), show i * sz + sz + j - (cells y).length = i * sz + j by omega]
    exact t
theorem InP.ofOwn {α : Type} {cells : α → List Value} {sz : Nat} (hz : ∀ x, (cells x).length = sz) {w : World} {B : Nat} {e : TypeId} {a : Option Addr} {n c : Nat} {l : List α} (hl : l.length = n) (h : w.ownsRow B e sz (.slice a n c) n (l.flatMap cells)) (S : Nat → Prop) (hS : ∀ k, k < w.heap.size → B ≤ k → S k) : InP cells sz w S a n l := by
  refine ⟨hl, fun h0 => ?_⟩
  obtain ⟨g, cap, hv, _, _, hB, hg⟩ := own_form h h0
  injection hv with h1
  subst h1
  refine ⟨g, 0, rfl, hS g hg hB, hg, fun i j x v hi hj => ?_⟩
  have t := h.cells (g := g) rfl (i * sz + j) v (flatP hz l i j x v hi hj)
  rw [addr_add0] at t
  rw [Nat.zero_add]
  exact t
def Ms.add (a b : Ms) : Ms := ⟨a.b + b.b, a.r + b.r, a.l + b.l⟩
def msum (l : List Ms) : Ms := l.foldl Ms.add ⟨0, 0, 0⟩
def Ms.ok (m : Ms) : Prop := 0 ≤ m.l ∧ m.l ≤ m.r ∧ m.r ≤ m.b ∧ m.b ≤ 1000000
theorem msum_snoc (l : List Ms) (m : Ms) : msum (l ++ [m]) = (msum l).add m := by simp [msum]
theorem fold_ok : ∀ (l : List Ms) (m0 : Ms), (∀ m ∈ l, m.ok) → 0 ≤ m0.l → m0.l ≤ m0.r → m0.r ≤ m0.b → 0 ≤ (l.foldl Ms.add m0).l ∧ (l.foldl Ms.add m0).l ≤ (l.foldl Ms.add m0).r ∧ (l.foldl Ms.add m0).r ≤ (l.foldl Ms.add m0).b ∧ (l.foldl Ms.add m0).b ≤ m0.b + 1000000 * (l.length : Int)
  | [], m0, _, a, b, c => ⟨a, b, c, by simp⟩
  | m :: l, m0, h, a, b, c => by
    obtain ⟨x, y, z, u⟩ := h m (by simp)
    obtain ⟨p, q, r, s⟩ := fold_ok l (m0.add m) (fun k hk => h k (by simp [hk])) (by simp only [Ms.add]; omega) (by simp only [Ms.add]; omega) (by simp only [Ms.add]; omega)
    refine ⟨p, q, r, ?_⟩
    simp only [Ms.add] at s
    simp only [List.foldl_cons, List.length_cons]
    push_cast
    simp only [Ms.add] at *
    omega
theorem msum_ok (l : List Ms) (h : ∀ m ∈ l, m.ok) : 0 ≤ (msum l).l ∧ (msum l).l ≤ (msum l).r ∧ (msum l).r ≤ (msum l).b ∧ (msum l).b ≤ 1000000 * (l.length : Int) := by
  have t := fold_ok l ⟨0, 0, 0⟩ h (by decide) (by decide) (by decide)
  simp only [Int.zero_add] at t
  exact t
set_option maxHeartbeats 2000000 in
theorem madd_any (S : Nat → Prop) (a : Option Addr) (n c : Nat) (l : List Ms) (w : World) (h : InP Ms.cells 3 w S a n l) (hok : ∀ m ∈ l, m.ok) (hn : n ≤ 1000) :
    Calls Tryz.prog 134 #[.slice a n c] w fun e w' => e = .returned (msum l).v ∧ Ch (fun _ => False) w w' := by
  go_enter Tryz.func134, Tryz.ntmps134
  go_wp2_with fail
  refine at_world fun W0 hW0 => ?_
  have C0 := hid (show Ch (fun _ => False) w W0 from by rw [hW0]; exact ((Ch.refl (fun _ => False) w).alloc _).alloc _)
  have R0 := hid (show Blk W0 w.heap.size 36 #[.int .i64 0, .int .i64 0, .int .i64 0] from by rw [hW0]; exact (Blk.new w _ _).alloc _)
  have K0 := hid (show Blk W0 (w.heap.size + 1) 283 #[.int .i64 0, .int .i64 0, .int .i64 0] from by
    rw [hW0]
    have t := Blk.new (w.alloc (.cells #[.int .i64 0, .int .i64 0, .int .i64 0] 36)) 283 #[.int .i64 0, .int .i64 0, .int .i64 0]
    simpa using t)
  clear hW0
  have HH := hid h
  have HOK := hid hok
  clear h hok
  go_loopw [10] (fun i W => ∃ k : Nat, k ≤ n ∧ i = .int .i64 (k : Int) ∧ Blk W w.heap.size 36 #[.int .i64 0, .int .i64 0, .int .i64 0] ∧ Blk W (w.heap.size + 1) 283 #[.int .i64 (msum (l.take k)).b, .int .i64 (msum (l.take k)).r, .int .i64 (msum (l.take k)).l] ∧ Ch (fun _ => False) w W) (fun i _ => n - (intOf i).toNat)
  case atStart => exact ⟨0, Nat.zero_le _, rfl, R0.out, K0.out, C0.out⟩
  case round =>
    clear R0 K0 C0
    obtain ⟨k, hk, rfl, hR, hK, hCh⟩ := hrel
    have HR := hid hR
    have HCH := hid hCh
    have HK := hid hK
    clear hR hCh hK
    have hln := HH.out.1
    by_cases hlt : k < n
    · obtain ⟨b, off, rfl⟩ := HH.out.some (by omega)
      obtain ⟨x, hx⟩ : ∃ x, l[k]? = some x := ⟨_, List.getElem?_eq_getElem (by omega)⟩
      have hI := HH.out.keep HCH.out (fun _ _ _ => id) (fun _ _ h => h)
      have c0 : wr.cell? ⟨b, off + k * 3, none⟩ = some (.int .i64 x.b) := hI.at k x hx 0 _ rfl
      have c1 : wr.cell? ⟨b, off + k * 3 + 1, none⟩ = some (.int .i64 x.r) := hI.at k x hx 1 _ rfl
      have c2 : wr.cell? ⟨b, off + k * 3 + 2, none⟩ = some (.int .i64 x.l) := hI.at k x hx 2 _ rfl
      have htk : l.take (k + 1) = l.take k ++ [x] := by
        have hkl := List.getElem?_eq_some_iff.1 hx
        rw [List.take_succ_eq_append_getElem hkl.1, hkl.2]
      have hms : msum (l.take (k + 1)) = (msum (l.take k)).add x := by rw [htk, msum_snoc]
      have hmo := msum_ok (l.take k) (fun m hm => HOK.out m (List.mem_of_mem_take hm))
      have hxo := HOK.out x (List.mem_of_getElem? hx)
      obtain ⟨q, hq⟩ : ∃ q, q = msum (l.take k) := ⟨_, rfl⟩
      rw [← hq] at hms hmo HK
      rw [List.length_take] at hmo
      have HMS := hid hms
      obtain ⟨xo1, xo2, xo3, xo4⟩ := hxo
      obtain ⟨mo1, mo2, mo3, mo4⟩ := hmo
      have mo4' : q.b ≤ 1000000000 := by omega
      clear hI hx htk hms hq mo4
      have y1 : decide (k < n) = true := decide_eq_true hlt
      have y2 : decide ((k : Int) < (n : Int)) = true := decide_eq_true (by omega)
      go_wp2_with fail
      refine at_world fun W2 hW2 => ?_
      have C2 := hid (show Ch (fun _ => False) w W2 from by rw [hW2]; exact HCH.out.alloc _)
      have R2 := hid (show Blk W2 w.heap.size 36 #[.int .i64 0, .int .i64 0, .int .i64 0] from by rw [hW2]; exact HR.out.alloc _)
      have K2 := hid (show Blk W2 (w.heap.size + 1) 283 #[.int .i64 q.b, .int .i64 q.r, .int .i64 q.l] from by rw [hW2]; exact HK.out.alloc _)
      clear hW2 HR HK HCH c0 c1 c2
      have hz2 := R2.out.lt
      go_loopw [21] (fun i W => ∃ j : Nat, j ≤ 3 ∧ i = .int .i64 (j : Int) ∧ Blk W w.heap.size 36 #[.int .i64 0, .int .i64 0, .int .i64 0] ∧ Blk W (w.heap.size + 1) 283 #[.int .i64 (if 0 < j then q.b + x.b else q.b), .int .i64 (if 1 < j then q.r + x.r else q.r), .int .i64 (if 2 < j then q.l + x.l else q.l)] ∧ Ch (fun _ => False) w W) (fun i _ => 3 - (intOf i).toNat)
      case atStart => exact ⟨0, by decide, rfl, R2.out, K2.out, C2.out⟩
      case round =>
        clear R2 K2 C2
        obtain ⟨j, hj, rfl, hR, hK, hCh⟩ := hrel
        have hcase : j = 0 ∨ j = 1 ∨ j = 2 ∨ j = 3 := by omega
        have HR := hid hR
        have HCH := hid hCh
        clear hR hCh
        rcases hcase with rfl | rfl | rfl | rfl
        · simp only [show ¬ (0 : Nat) < 0 from by decide, show ¬ (1 : Nat) < 0 from by decide, show ¬ (2 : Nat) < 0 from by decide, if_true, if_false] at hK
          rw [show ((0 : Nat) : Int) = 0 from rfl]
          have c0 : wr.cell? ⟨w.heap.size + 1, 0, none⟩ = some (.int .i64 q.b) := hK.cell 0
          have c1 := hK.free 0
          have HK := hid hK
          clear hK
          have hix : ∀ W : World, (Instr.index 282 (.agg #[.int .i64 x.b, .int .i64 x.r, .int .i64 x.l]) (.int .i64 0)).run Tryz.prog W = .ok (.int .i64 x.b) W := fun W => by kernel_rfl
          go_wp2_with fail
          go_roundw
          case rel =>
            refine ⟨1, by decide, by go_num, HR.out.far (by show w.heap.size ≠ w.heap.size + 1; omega) _, ?_, HCH.out.set (fun h => absurd h (by omega)) _⟩
            have t := HK.out.put 0 (.int .i64 (q.b + x.b))
            simpa using t
          case measure => simp [intOf]
        · simp only [show (0 : Nat) < 1 from by decide, show ¬ (1 : Nat) < 1 from by decide, show ¬ (2 : Nat) < 1 from by decide, if_true, if_false] at hK
          rw [show ((1 : Nat) : Int) = 1 from rfl]
          have c0 : wr.cell? ⟨w.heap.size + 1, 1, none⟩ = some (.int .i64 q.r) := hK.cell 1
          have c1 := hK.free 1
          have HK := hid hK
          clear hK
          have hix : ∀ W : World, (Instr.index 282 (.agg #[.int .i64 x.b, .int .i64 x.r, .int .i64 x.l]) (.int .i64 1)).run Tryz.prog W = .ok (.int .i64 x.r) W := fun W => by kernel_rfl
          go_wp2_with fail
          go_roundw
          case rel =>
            refine ⟨2, by decide, by go_num, HR.out.far (by show w.heap.size ≠ w.heap.size + 1; omega) _, ?_, HCH.out.set (fun h => absurd h (by omega)) _⟩
            have t := HK.out.put 1 (.int .i64 (q.r + x.r))
            simpa using t
          case measure => simp [intOf]
        · simp only [show (0 : Nat) < 2 from by decide, show (1 : Nat) < 2 from by decide, show ¬ (2 : Nat) < 2 from by decide, if_true, if_false] at hK
          rw [show ((2 : Nat) : Int) = 2 from rfl]
          have c0 : wr.cell? ⟨w.heap.size + 1, 2, none⟩ = some (.int .i64 q.l) := hK.cell 2
          have c1 := hK.free 2
          have HK := hid hK
          clear hK
          have hix : ∀ W : World, (Instr.index 282 (.agg #[.int .i64 x.b, .int .i64 x.r, .int .i64 x.l]) (.int .i64 2)).run Tryz.prog W = .ok (.int .i64 x.l) W := fun W => by kernel_rfl
          go_wp2_with fail
          go_roundw
          case rel =>
            refine ⟨3, by decide, by go_num, HR.out.far (by show w.heap.size ≠ w.heap.size + 1; omega) _, ?_, HCH.out.set (fun h => absurd h (by omega)) _⟩
            have t := HK.out.put 2 (.int .i64 (q.l + x.l))
            simpa using t
          case measure => simp [intOf]
        · simp only [show (0 : Nat) < 3 from by decide, show (1 : Nat) < 3 from by decide, show (2 : Nat) < 3 from by decide, if_true] at hK
          rw [show ((3 : Nat) : Int) = 3 from rfl]
          go_wp2_with fail
          refine ⟨⟨k + 1, by omega, by push_cast; rfl, HR.out, by rw [HMS.out]; exact hK, HCH.out⟩, by simp only [intOf]; omega⟩
    · obtain rfl : n = k := by omega
      rw [List.take_of_length_le (by omega)] at HK
      have c0 : wr.cell? ⟨w.heap.size + 1, 0, none⟩ = some (.int .i64 (msum l).b) := HK.out.cell 0
      have c1 : wr.cell? ⟨w.heap.size + 1, 1, none⟩ = some (.int .i64 (msum l).r) := HK.out.cell 1
      have c2 : wr.cell? ⟨w.heap.size + 1, 2, none⟩ = some (.int .i64 (msum l).l) := HK.out.cell 2
      have y1 : decide (n < n) = false := decide_eq_false (by omega)
      go_wp2_with fail
      refine (measured_any (msum l).b (msum l).r (msum l).l wr).mono ?_
      rintro e w5 ⟨rfl, hc5⟩
      have hB5 := hc5.blk HR.out id
      have r0 : w5.cell? ⟨w.heap.size, 0, none⟩ = some (.int .i64 0) := hB5.cell 0
      have r1 : w5.cell? ⟨w.heap.size, 1, none⟩ = some (.int .i64 0) := hB5.cell 1
      have r2 : w5.cell? ⟨w.heap.size, 2, none⟩ = some (.int .i64 0) := hB5.cell 2
      have s0 := hB5.free 0
      have s1 := hB5.free 1
      have s2 := hB5.free 2
      have C5 := hid (HCH.out.trans hc5 (fun _ _ h => h))
      clear hc5 c0 c1 c2
      go_wp2_with fail
      refine at_world fun W6 hW6 => ?_
      have B6 := hid (show Blk W6 w.heap.size 36 #[.int .i64 (msum l).b, .int .i64 (msum l).r, .int .i64 (msum l).l] from by rw [hW6]; exact ((hB5.put 0 _).put 1 _).put 2 _)
      have C6 := hid (show Ch (fun _ => False) w W6 from by rw [hW6]; exact ((C5.out.set (fun h => absurd h (by omega)) _).set (fun h => absurd h (by omega)) _).set (fun h => absurd h (by omega)) _)
      clear hW6 r0 r1 r2 s0 s1 s2
      have t0 : W6.cell? ⟨w.heap.size, 0, none⟩ = some (.int .i64 (msum l).b) := B6.out.cell 0
      have t1 : W6.cell? ⟨w.heap.size, 1, none⟩ = some (.int .i64 (msum l).r) := B6.out.cell 1
      have t2 : W6.cell? ⟨w.heap.size, 2, none⟩ = some (.int .i64 (msum l).l) := B6.out.cell 2
      refine bodyPost_ret (v := .agg #[.int .i64 (msum l).b, .int .i64 (msum l).r, .int .i64 (msum l).l]) (by simp [results, Tryz.results134, go_sem, t0, t1, t2]) rfl ⟨rfl, C6.out⟩
end Go.Proofs.YtjcdknhejcbpiaaGreat
