/- Texts XStDl, XTree, XKeepD for XChE, by trim.py. -/
import Derived.Test.YtefpabicgefciaaGreatDb10
import Derived.Test.YtefpabicgefciaaGreatDb01
import Derived.Test.YtefpabicgefciaaGreatDb03
namespace Go.Proofs.YtefpabicgefciaaGreat
open Go.RowKit
set_option linter.unusedVariables false
set_option linter.unusedSimpArgs false
set_option linter.unusedSectionVars false
theorem flat_getG {α : Type} (f : α → List Value) (c : Nat) (hf : ∀ r, (f r).length = c) : ∀ (l : List α) (i : Nat) (r : α), l[i]? = some r → ∀ (j : Nat) (v : Value), (f r)[j]? = some v → (l.flatMap f)[i * c + j]? = some v
  | [], i, r, h, _, _, _ => by simp at h
  | x :: l, 0, r, h, j, v, hv => by
    simp at h
    subst h
    rw [List.flatMap_cons, Nat.zero_mul, Nat.zero_add, List.getElem?_append_left (List.getElem?_eq_some_iff.1 hv).1]
    exact hv
  | x :: l, i + 1, r, h, j, v, hv => by
    rw [List.getElem?_cons_succ] at h
    rw [List.flatMap_cons, List.getElem?_append_right (by rw [hf, Nat.add_mul]; omega), hf, show (i + 1) * c + j - c = i * c + j by rw [Nat.add_mul]; omega]
    exact flat_getG f c hf l i r h j v hv
theorem run_slice_b {P : Program} (t e : TypeId) (size : Nat) (ht : P.underlying t = some (.slice e)) (hz : (P.info? e).map (·.size) = some size) (g n cap i h : Nat) (hi : i ≤ h) (hh : h ≤ cap) (w : World) :
    (Instr.sliceAt t (.slice (some ⟨g, 0, none⟩) n cap) (some (.int .i64 (i : Int))) (some (.int .i64 (h : Int))) none).run P w = .ok (.slice (if cap = i then some ⟨g, 0, none⟩ else some ⟨g, i * size, none⟩) (h - i) (cap - i)) w := by
  cases hq : P.info? e with
  | none => simp [hq] at hz
  | some inf =>
    have hsz : inf.size = size := by simpa [hq] using hz
    have h0 : (0 : Int) ≤ (i : Int) ∧ (i : Int) ≤ (h : Int) := by omega
    have h1 : (0 : Int) ≤ (h : Int) ∧ (h : Int) ≤ (cap : Int) := by omega
    simp only [Instr.sliceAt, Sem.run_bind, run_underlying ht, Result.andThen_ok, Instr.slice, Instr.sliceBounds, Instr.sliceBound, asIntOf, Sem.run_pure, h0, h1, and_self, if_true, Int.toNat_natCast, sizeOf, typeInfo, hq]
    simp [program, Sem.run, hq, hsz, Addr.add]
    split
    · rfl
    · split
      · rename_i h; rw [h]
      · rfl
def InV.dv (r : InV) : Value := .slice r.ad r.n2 r.c2
/-- The deltas between two revisions. -/
def between (rs : List InV) (a m : Nat) : List (List Pc) := ((rs.drop (a + 1)).take m).map InV.ds
theorem dv_one (l : List InV) : ∀ u ∈ l.map InV.dv, u.oneCell' = true := fun u hu => by
  obtain ⟨b, _, rfl⟩ := List.mem_map.1 hu
  rfl
set_option maxRecDepth 100000 in
set_option maxHeartbeats 2000000 in
theorem delta_any (B sb N cap g : Nat) (rs : List InV) (a b : Nat) (w : World) (hS : w.cell? ⟨sb, 23, none⟩ = some (.slice (some ⟨g, 0, none⟩) N cap)) (hown : w.ownsRow B 79 8 (.slice (some ⟨g, 0, none⟩) N cap) N (rs.flatMap InV.cells)) (hN : rs.length = N) (hok : ∀ r ∈ rs, InPc w r.ad r.n2 r.ds ∧ r.n2 ≤ r.c2 ∧ r.ds.length < 5000000) (hab : a ≤ b) (hb : b < N) (hN2 : N < 1000) :
    Calls Tryz.prog 43 #[.pointer (some ⟨sb, 0, none⟩), .int .i64 (a : Int), .int .i64 (b : Int)] w fun e w' => ∃ v r, rs[a]? = some r ∧ e = .returned (.tuple #[v, .int .i64 (Dl.allE r.x.b (between rs a (b - a))).2]) ∧ MadeP w.heap.size w' v (Dl.allE r.x.b (between rs a (b - a))).1 ∧ Ch (fun _ => False) w w' := by
  obtain ⟨i1, hi1, hy0, hy1, hy2⟩ := info_parts (show (Tryz.prog.info? 77).map (fun i => (i.zero, i.size, i.bytes)) = some (some (Value.slice none 0 0), 1, 24) by kernel_rfl)
  obtain ⟨r0, hr0⟩ : ∃ r, rs[a]? = some r := ⟨rs[a]'(by omega), List.getElem?_eq_getElem _⟩
  obtain ⟨m, hm⟩ : ∃ m, b = a + m := ⟨b - a, by omega⟩
  subst hm
  have hcell : ∀ (k : Nat) (r : InV), rs[k]? = some r → ∀ j v, r.cells[j]? = some v → w.cell? ⟨g, k * 8 + j, none⟩ = some v := fun k r hk j v hv => by
    have t := hown.cells (g := g) rfl (k * 8 + j) v (flat_getG InV.cells 8 (fun _ => rfl) rs k r hk j v hv)
    rw [addr_add0] at t
    exact t
  have hcap : N ≤ cap := by
    rcases hown.2 with ⟨h, _⟩ | ⟨g', cap', cur, h, _, _, h2, _⟩
    · cases h
    · injection h with _ _ h3
      omega
  have e3 : w.cell? ⟨g, a * 8 + 3, none⟩ = some (.int .i64 r0.x.b) := hcell a r0 hr0 3 _ rfl
  have hsl := fun W : World => run_slice_b (P := Tryz.prog) 41 79 8 Tryz.underlying41 (by kernel_rfl) g N cap (a + 1) (a + m + 1) (by omega) (by omega) W
  rw [show a + m + 1 - (a + 1) = m by omega] at hsl
  obtain ⟨A1, hA1⟩ : ∃ A, A = (if cap = a + 1 then some (⟨g, 0, none⟩ : Addr) else some ⟨g, (a + 1) * 8, none⟩) := ⟨_, rfl⟩
  rw [← hA1] at hsl
  have HA1 := hid (show 0 < m → A1 = some ⟨g, (a + 1) * 8, none⟩ from fun h => by rw [hA1, if_neg (by omega)])
  have HC := hid hcell
  have HOK := hid hok
  have HR := hid hr0
  have HN := hid hN
  have d1 : decide ((a : Int) < 0) = false := decide_eq_false (by omega)
  have d2 : decide ((N : Int) ≤ (a : Int) + (m : Int)) = false := decide_eq_false (by omega)
  have d3 : decide ((a : Int) + (m : Int) < (a : Int)) = false := decide_eq_false (by omega)
  have w1 : IntKind.i64.wrap ((a : Int) + 1) = (a : Int) + 1 := IntWalk.i64_in _ (by omega)
  have w2 : IntKind.i64.wrap ((a : Int) + (m : Int) + 1) = (a : Int) + m + 1 := IntWalk.i64_in _ (by omega)
  clear hown hN hok hA1 hr0 hcell
  push_cast at hsl
  push_cast
  go_enter Tryz.func43, Tryz.ntmps43
  go_wp2_with fail
  go_loopw [8, 39] (fun v i W => ∃ k : Nat, k ≤ m ∧ i = .int .i64 (k : Int) ∧ W.ownsRow w.heap.size 77 1 v k (((rs.drop (a + 1)).take k).map InV.dv) ∧ Ch (fun _ => False) w W) (fun _ i _ => m - (intOf i).toNat)
  case atStart => exact ⟨0, Nat.zero_le _, rfl, World.ownsRow_nil _ _ _ _, Ch.refl _ _⟩
  case round =>
    obtain ⟨k, hk, rfl, hown, hC⟩ := hrel
    obtain ⟨va, vc, hv, _⟩ := own_slice hown
    subst hv
    have HO := hid hown
    have HCh := hid hC
    clear hown hC
    by_cases hlt : k < m
    · have e1 : decide ((k : Int) < (m : Int)) = true := decide_eq_true (by omega)
      have e2 : decide (k < m) = true := decide_eq_true hlt
      have hA := HA1.out (by omega)
      subst hA
      obtain ⟨r, hr⟩ : ∃ r, rs[a + 1 + k]? = some r := ⟨rs[a + 1 + k]'(by rw [HN.out]; omega), List.getElem?_eq_getElem _⟩
      have hcc : ∀ j v, r.cells[j]? = some v → wr.cell? ⟨g, (a + 1) * 8 + k * 8 + j, none⟩ = some v := fun j v hv => by
        have t := HC.out (a + 1 + k) r hr j v hv
        rw [show (a + 1 + k) * 8 + j = (a + 1) * 8 + k * 8 + j by omega] at t
        exact (HCh.out.cell (p := ⟨g, _, none⟩) (World.block_lt_of_cell? w _ t) id).trans t
      have c0 : wr.cell? ⟨g, (a + 1) * 8 + k * 8, none⟩ = some (.int .i64 r.x.num) := hcc 0 _ rfl
      have c1 : wr.cell? ⟨g, (a + 1) * 8 + k * 8 + 1, none⟩ = some (.int .u64 r.x.at') := hcc 1 _ rfl
      have c2 : wr.cell? ⟨g, (a + 1) * 8 + k * 8 + 2, none⟩ = some (.int .i64 r.x.h) := hcc 2 _ rfl
      have c3 : wr.cell? ⟨g, (a + 1) * 8 + k * 8 + 3, none⟩ = some (.int .i64 r.x.b) := hcc 3 _ rfl
      have c4 : wr.cell? ⟨g, (a + 1) * 8 + k * 8 + 4, none⟩ = some (.int .i64 r.x.r) := hcc 4 _ rfl
      have c5 : wr.cell? ⟨g, (a + 1) * 8 + k * 8 + 5, none⟩ = some (.int .i64 r.x.l) := hcc 5 _ rfl
      have c6 : wr.cell? ⟨g, (a + 1) * 8 + k * 8 + 6, none⟩ = some (.slice r.am r.n1 r.c1) := hcc 6 _ rfl
      have c7 : wr.cell? ⟨g, (a + 1) * 8 + k * 8 + 7, none⟩ = some (.slice r.ad r.n2 r.c2) := hcc 7 _ rfl
      have HTK := hid (show (rs.drop (a + 1)).take (k + 1) = (rs.drop (a + 1)).take k ++ [r] from by
        rw [List.take_add_one, List.getElem?_drop, hr]; rfl)
      have hw1 : (wr.alloc (.cells r.cells.toArray 79)).heap.size = wr.heap.size + 1 := by simp
      clear hcc hr
      go_wp2_with (at_builtin; refine wpList_app _ rfl (.tmp 43) (.tmp 46) 211 rfl w.heap.size 77 i1 _ 1 24 Tryz.underlying211 hi1 hy0 hy1 hy2 rfl (by decide) (.slice va k vc) k (((rs.drop (a + 1)).take k).map InV.dv) rfl ((HO.out.alloc (.cells r.cells.toArray 79)).alloc (.cells #[r.dv] 77)) ⟨wr.heap.size + 1, 0, none⟩ 1 1 [r.dv] rfl rfl ?c1 ?c2 (by decide) ?c3 ?c4 ?c5 ?c6)
      case c1 => intro j u hu; first | (rw [addr_add0, ← hw1]; exact (Blk.cell (Blk.new _ 77 #[r.dv]) j).trans (by simpa using hu)) | exact hu
      case c2 => first | exact fun u hu => dv_one [r] u (by simpa using hu) | rfl
      case c3 => unfold maxLen; omega
      case c4 => omega
      case c5 => have hz := HCh.out.size; first | (simp; omega) | omega
      case c6 =>
        intro v' w9 hown hgrow hfresh
        obtain ⟨va9, vc9, hv9, _⟩ := own_slice hown
        subst hv9
        have HO9 := hid hown
        have C9 := hid (Ch.grown (((HCh.out).alloc (.cells r.cells.toArray 79)).alloc (.cells #[r.dv] 77)) hgrow (fun q hq hlt2 => by
          have := (HO.out.lt q hq).1
          omega))
        clear hown hgrow hfresh c0 c1 c2 c3 c4 c5 c6 c7
        go_wp2_with fail
        go_roundw
        case rel => exact ⟨k + 1, hlt, by go_num, by rw [HTK.out, List.map_append]; have t := HO9.out; simpa [List.map_take, List.map_drop] using t, C9.out⟩
        case measure => simp [intOf]; omega
    · obtain rfl : k = m := by omega
      have e1 : decide ((k : Int) < (k : Int)) = false := decide_eq_false (by omega)
      have HB := hid (show ((rs.drop (a + 1)).take k).map InV.ds = between rs a k from rfl)
      have hlen : (between rs a k).length = k := by
        unfold between
        rw [List.length_map, List.length_take, List.length_drop, HN.out]; omega
      have HIN := hid (show InPcsO wr va k (between rs a k) from ⟨hlen.symm, fun j hj => by
        obtain ⟨gg, cc, hvv, _⟩ := own_form HO.out (by omega)
        injection hvv with h1 h2 h3
        obtain ⟨r, hr⟩ : ∃ r, rs[a + 1 + j]? = some r := ⟨rs[a + 1 + j]'(by rw [HN.out]; omega), List.getElem?_eq_getElem _⟩
        have htk : ((rs.drop (a + 1)).take k)[j]? = some r := by rw [List.getElem?_take, if_pos hj, List.getElem?_drop]; exact hr
        have hmem := List.mem_of_getElem? hr
        have hds : (between rs a k).getD j [] = r.ds := by
          unfold between
          show ((List.map InV.ds ((rs.drop (a + 1)).take k))[j]?).getD [] = _
          rw [List.getElem?_map, htk]
          rfl
        refine ⟨gg, 0, r.dv, h1, ?_, ?_⟩
        · have t := HO.out.cells (g := gg) (by rw [h1]; rfl) j r.dv (by rw [List.getElem?_map, htk]; rfl)
          rw [addr_add0] at t
          rw [Nat.zero_add]
          exact t
        · rw [hds]
          obtain ⟨o1, o2, o3⟩ := HOK.out r hmem
          exact (PcAt.of_in o1 o2).keep HCh.out⟩)
      have HLN := hid (show ∀ d ∈ between rs a k, d.length < 5000000 from fun d hd => by
        unfold between at hd
        obtain ⟨r, hr, rfl⟩ := List.mem_map.1 hd
        exact (HOK.out r (List.mem_of_mem_drop (List.mem_of_mem_take hr))).2.2)
      have e3' : wr.cell? ⟨g, a * 8 + 3, none⟩ = some (.int .i64 r0.x.b) := (HCh.out.cell (p := ⟨g, a * 8 + 3, none⟩) (World.block_lt_of_cell? w _ e3) id).trans e3
      have e4' : wr.cell? ⟨g, a * 8 + 1 + 2, none⟩ = some (.int .i64 r0.x.b) := e3'
      have hS' : wr.cell? ⟨sb, 23, none⟩ = some (.slice (some ⟨g, 0, none⟩) N cap) := (HCh.out.cell (p := ⟨sb, 23, none⟩) (World.block_lt_of_cell? w _ hS) id).trans hS
      have d5 : decide (a < N) = true := decide_eq_true (by omega)
      have d6 : decide ((a : Int) < (N : Int)) = true := decide_eq_true (by omega)
      clear hlen
      go_wp2_with fail
      refine (all_any r0.x.b va k vc (between rs a k) wr HIN.out HLN.out (by omega)).mono ?_
      rintro e w2 ⟨v2, rfl, hown2, hc2⟩
      have O2 := hid (own_mono hown2 HCh.out.size)
      have C2 := hid (HCh.out.trans hc2 (fun _ _ h => h))
      clear hown2 hc2
      go_wp2_with fail
      go_ret2
      have e : a + k - a = k := by omega
      exact ⟨v2, r0, HR.out, by rw [e]; rfl, by rw [e]; exact O2.out, C2.out⟩
end Go.Proofs.YtefpabicgefciaaGreat
namespace Go.Proofs.YtefpabicgefciaaGreat
open Go.RowKit
set_option linter.unusedVariables false
set_option linter.unusedSimpArgs false
/-- n elements in the least number of groups of at most m. -/
def grpN (n m : Nat) : Nat := n / m + (if 0 < n % m then 1 else 0)
def szAt (n g i : Nat) : Nat := if i < n % g then n / g + 1 else n / g
def sizesN (n m : Nat) : List Nat := (List.range (grpN n m)).map (szAt n (grpN n m))
theorem sizes_len (n m : Nat) : (sizesN n m).length = grpN n m := by simp [sizesN]
theorem sizes_get (n m i : Nat) (h : i < grpN n m) : (sizesN n m)[i]? = some (szAt n (grpN n m) i) := by simp [sizesN, h]
theorem sum_at (q r g : Nat) : ∀ k, ((List.range k).map fun i => if i < r then q + 1 else q).sum = q * k + min k r := by
  intro k
  induction k with
  | zero => simp
  | succ k ih =>
    rw [List.range_succ, List.map_append, List.sum_append, ih]
    simp only [List.map_cons, List.map_nil, List.sum_cons, List.sum_nil, Nat.mul_succ]
    split <;> omega
theorem grp_pos {n m : Nat} (hn : 0 < n) (hm : 0 < m) : 0 < grpN n m := by
  unfold grpN
  split
  · exact Nat.succ_pos _
  · rename_i h
    have h1 : n % m = 0 := by omega
    have h2 := Nat.div_add_mod n m
    rw [h1, Nat.add_zero] at h2
    rcases Nat.eq_zero_or_pos (n / m) with e | e
    · rw [e, Nat.mul_zero] at h2; omega
    · omega
theorem sizes_sum (n m : Nat) (hm : 0 < m) : (sizesN n m).sum = n := by
  rcases Nat.eq_zero_or_pos n with rfl | hn
  · simp [sizesN, grpN]
  · have hg := grp_pos hn hm
    show ((List.range (grpN n m)).map fun i => if i < n % grpN n m then n / grpN n m + 1 else n / grpN n m).sum = n
    rw [sum_at _ _ 0]
    have h1 := Nat.mod_lt n hg
    have h2 := Nat.div_add_mod n (grpN n m)
    rw [Nat.min_eq_right (Nat.le_of_lt h1), Nat.mul_comm]
    exact h2
theorem grp_le {n m : Nat} (hm : 0 < m) : n ≤ m * grpN n m ∧ m * grpN n m < n + m := by
  unfold grpN
  have h2 := Nat.div_add_mod n m
  have h3 := Nat.mod_lt n hm
  split
  · rw [Nat.mul_add]; omega
  · rw [Nat.mul_add]; omega
theorem sz_le {n m i : Nat} (hn : 0 < n) (hm : 0 < m) : szAt n (grpN n m) i ≤ m := by
  have hg := grp_pos hn hm
  have h1 := (grp_le (n := n) hm).1
  have h2 := Nat.div_add_mod n (grpN n m)
  unfold szAt
  split
  · rename_i h
    have : grpN n m * (n / grpN n m) < grpN n m * m := by rw [Nat.mul_comm (grpN n m) m]; omega
    exact Nat.lt_of_mul_lt_mul_left this
  · exact Nat.div_le_of_le_mul (by rw [Nat.mul_comm]; exact h1)
/-- Two groups or more: each has half of the most. -/
theorem sz_ge {n m k i : Nat} (hm : m = 2 * k) (hk : 0 < k) (hg : 1 < grpN n m) : k ≤ szAt n (grpN n m) i := by
  have h1 := (grp_le (n := n) (m := m) (by omega)).2
  have : k ≤ n / grpN n m := by
    rw [Nat.le_div_iff_mul_le (by omega)]
    subst hm
    have h4 : 2 * k * 2 ≤ 2 * k * grpN n (2 * k) := Nat.mul_le_mul_left _ hg
    have h5 : 2 * k * grpN n (2 * k) = 2 * (k * grpN n (2 * k)) := Nat.mul_assoc _ _ _
    omega
  unfold szAt
  split <;> omega
theorem sz_pos {n m i : Nat} (hn : 0 < n) (hm : 1 < m) : 0 < szAt n (grpN n m) i := by
  have hg := grp_pos hn (by omega : 0 < m)
  have h1 := (grp_le (n := n) (m := m) (by omega)).2
  have : 1 ≤ n / grpN n m := by
    rw [Nat.le_div_iff_mul_le hg, Nat.one_mul]
    rcases Nat.lt_or_ge n (grpN n m) with e | e
    · exfalso
      have h2 : m * (n + 1) ≤ m * grpN n m := Nat.mul_le_mul_left _ e
      have h3 : m * (n + 1) = m * n + m := Nat.mul_succ _ _
      have h4 : 2 * n ≤ m * n := Nat.mul_le_mul_right _ hm
      omega
    · exact e
  unfold szAt
  split <;> omega
/-- A list cut into parts of these sizes. -/
def cutL {α : Type} : List Nat → List α → List (List α)
  | [], _ => []
  | n :: ns, l => l.take n :: cutL ns (l.drop n)
theorem cutL_len {α : Type} : ∀ (ns : List Nat) (l : List α), (cutL ns l).length = ns.length
  | [], _ => rfl
  | n :: ns, l => by simp [cutL, cutL_len ns]
theorem cutL_flat {α : Type} : ∀ (ns : List Nat) (l : List α), ns.sum = l.length → (cutL ns l).flatten = l
  | [], l, h => by
    have : l = [] := List.eq_nil_of_length_eq_zero (by simpa using h.symm)
    subst this; rfl
  | n :: ns, l, h => by
    simp only [cutL, List.flatten_cons]
    rw [cutL_flat ns (l.drop n) (by simp at h ⊢; omega), List.take_append_drop]
theorem cutL_get {α : Type} : ∀ (ns : List Nat) (l : List α) (i k : Nat), ns[i]? = some k → (cutL ns l)[i]? = some ((l.drop ((ns.take i).sum)).take k)
  | [], _, i, k, h => by simp at h
  | n :: ns, l, 0, k, h => by simp at h; subst h; simp [cutL]
  | n :: ns, l, i + 1, k, h => by
    have t := cutL_get ns (l.drop n) i k (by simpa using h)
    simp only [cutL, List.getElem?_cons_succ, List.take_succ_cons, List.sum_cons]
    rw [t, List.drop_drop]
theorem cutL_size {α : Type} : ∀ (ns : List Nat) (l : List α), ns.sum = l.length → ∀ x ∈ cutL ns l, x.length ∈ ns
  | [], l, h, x, hx => by simp [cutL] at hx
  | n :: ns, l, h, x, hx => by
    simp only [cutL, List.mem_cons] at hx
    simp at h
    rcases hx with rfl | hx
    · rw [List.length_take, Nat.min_eq_left (by omega)]; exact List.mem_cons_self
    · exact List.mem_cons_of_mem _ (cutL_size ns (l.drop n) (by simp; omega) x hx)
/-- A text cut into parts of these sizes. -/
def cutS : List Nat → ByteArray → List ByteArray
  | [], _ => []
  | n :: ns, s => s.extract 0 n :: cutS ns (s.extract n s.size)
theorem cutS_len : ∀ (ns : List Nat) (s : ByteArray), (cutS ns s).length = ns.length
  | [], _ => rfl
  | n :: ns, s => by simp [cutS, cutS_len ns]
theorem cutS_size : ∀ (ns : List Nat) (s : ByteArray), ns.sum = s.size → ∀ x ∈ cutS ns s, x.size ∈ ns
  | [], s, h, x, hx => by simp [cutS] at hx
  | n :: ns, s, h, x, hx => by
    simp only [cutS, List.mem_cons] at hx
    simp at h
    rcases hx with rfl | hx
    · rw [ByteArray.size_extract, Nat.min_eq_left (by omega)]; exact List.mem_cons_self
    · exact List.mem_cons_of_mem _ (cutS_size ns (s.extract n s.size) (by rw [ByteArray.size_extract]; omega) x hx)
theorem cutS_sum : ∀ (ns : List Nat) (s : ByteArray), ns.sum = s.size → ((cutS ns s).map ByteArray.size).sum = s.size
  | [], s, h => by simpa [cutS] using h
  | n :: ns, s, h => by
    simp at h
    simp only [cutS, List.map_cons, List.sum_cons]
    rw [cutS_sum ns (s.extract n s.size) (by rw [ByteArray.size_extract]; omega), ByteArray.size_extract, ByteArray.size_extract]
    omega
/-- The leaves of a text. -/
def chunksS (s : ByteArray) : List ByteArray := cutS (sizesN s.size 16) s
inductive T where
  | leaf (s : ByteArray)
  | node (h : Nat) (ks : List T)
def T.ht : T → Nat
  | .leaf _ => 0
  | .node h _ => h
theorem T.ind {P : T → Prop} (hl : ∀ s, P (.leaf s)) (hn : ∀ h ks, (∀ t ∈ ks, P t) → P (.node h ks)) : ∀ t, P t
  | .leaf s => hl s
  | .node h ks => hn h ks fun t ht => T.ind hl hn t
termination_by t => SizeOf.sizeOf t
decreasing_by
  have := List.sizeOf_lt_of_mem ht
  simp
  omega
mutual
def T.bytes : T → Nat
  | .leaf s => s.size
  | .node _ ks => T.bytesL ks
def T.bytesL : List T → Nat
  | [] => 0
  | t :: ts => t.bytes + T.bytesL ts
end
mutual
/-- The nodes of a plan. -/
def T.cnt : T → Nat
  | .leaf _ => 1
  | .node _ ks => T.cntL ks + 1
def T.cntL : List T → Nat
  | [] => 0
  | t :: ts => t.cnt + T.cntL ts
end
/-- One row of a plan becomes the next. -/
def groupT (ks : List T) : T := match ks with
  | [t] => t
  | ks => .node ((ks.headD (.leaf ByteArray.empty)).ht + 1) ks
def rowUp (l : List T) : List T := (cutL (sizesN l.length 4) l).map groupT
/-- A plan of this height whose leaves and nodes are all well filled. -/
def T.fit : Nat → T → Prop
  | 0, .leaf s => 8 ≤ s.size ∧ s.size ≤ 16
  | h + 1, .node k ks => k = h + 1 ∧ 2 ≤ ks.length ∧ ks.length ≤ 4 ∧ ∀ t ∈ ks, T.fit h t
  | _, _ => False
theorem T.fit_ht : ∀ {h : Nat} {t : T}, T.fit h t → t.ht = h
  | 0, .leaf s, _ => rfl
  | h + 1, .node k ks, e => e.1
  | 0, .node _ _, e => e.elim
  | h + 1, .leaf _, e => e.elim
/-- A plan of a text that is not empty. -/
def T.good (t : T) : Prop := (∃ s : ByteArray, t = .leaf s ∧ 1 ≤ s.size ∧ s.size ≤ 16) ∨ ∃ h, h ≤ 16 ∧ T.fit h t
theorem rowUp_len (l : List T) : (rowUp l).length = grpN l.length 4 := by simp [rowUp, cutL_len, sizes_len]
theorem rowUp_lt {l : List T} (h : 1 < l.length) : (rowUp l).length < l.length := by
  rw [rowUp_len]
  have := (grp_le (n := l.length) (m := 4) (by decide)).2
  omega
/-- The last row. -/
def topT (l : List T) : List T := if h : l.length ≤ 1 then l else topT (rowUp l)
termination_by l.length
decreasing_by exact rowUp_lt (by omega)
theorem topT_le {l : List T} (h : l.length ≤ 1) : topT l = l := by rw [topT, dif_pos h]
theorem topT_up {l : List T} (h : 1 < l.length) : topT l = topT (rowUp l) := by
  conv => lhs; rw [topT]
  rw [dif_neg (by omega)]
def baseT (s : ByteArray) : List T := (chunksS s).map .leaf
/-- The plan of a text. -/
def buildT (s : ByteArray) : List T := topT (baseT s)
theorem bytesL_sum (l : List T) : T.bytesL l = (l.map T.bytes).sum := by
  induction l with
  | nil => rfl
  | cons t l ih => simp [T.bytesL, ih]
theorem cntL_sum (l : List T) : T.cntL l = (l.map T.cnt).sum := by
  induction l with
  | nil => rfl
  | cons t l ih => simp [T.cntL, ih]
theorem group_bytes (l : List T) (h : l ≠ []) : (groupT l).bytes = T.bytesL l := by
  unfold groupT
  split
  · simp [T.bytesL]
  · simp [T.bytes]
theorem rowUp_bytes (l : List T) : T.bytesL (rowUp l) = T.bytesL l := by
  have hs := sizes_sum l.length 4 (by decide)
  have hp : ∀ x ∈ cutL (sizesN l.length 4) l, x ≠ [] := by
    intro x hx
    have h1 := cutL_size _ _ hs x hx
    simp only [sizesN, List.mem_map, List.mem_range] at h1
    obtain ⟨i, hi, h1⟩ := h1
    rcases Nat.eq_zero_or_pos l.length with e | e
    · rw [e] at hi; simp [grpN] at hi
    · have := sz_pos (m := 4) (i := i) e (by decide)
      intro hn
      subst hn
      simp at h1
      omega
  have hf := cutL_flat _ _ hs
  unfold rowUp
  conv => rhs; rw [← hf]
  generalize cutL (sizesN l.length 4) l = L at hp
  induction L with
  | nil => rfl
  | cons x L ih =>
    simp only [List.map_cons, T.bytesL, List.flatten_cons, bytesL_sum, List.map_append, List.sum_append, List.sum_cons]
    rw [group_bytes x (hp x (by simp)), bytesL_sum]
    have := ih (fun y hy => hp y (by simp [hy]))
    simp only [bytesL_sum] at this
    rw [this]
theorem topT_bytes (l : List T) : T.bytesL (topT l) = T.bytesL l := by
  by_cases h1 : l.length ≤ 1
  · rw [topT_le h1]
  · rw [topT_up (by omega), topT_bytes (rowUp l), rowUp_bytes]
termination_by l.length
decreasing_by exact rowUp_lt (by omega)
theorem base_bytes (s : ByteArray) : T.bytesL (baseT s) = s.size := by
  have h := cutS_sum (sizesN s.size 16) s (sizes_sum _ _ (by decide))
  rw [bytesL_sum]
  simpa [baseT, chunksS, Function.comp_def, T.bytes] using h
theorem base_len (s : ByteArray) : (baseT s).length = grpN s.size 16 := by simp [baseT, chunksS, cutS_len, sizes_len]
theorem build_bytes (s : ByteArray) : T.bytesL (buildT s) = s.size := by rw [buildT, topT_bytes, base_bytes]
/-- Every plan of a row is well filled. -/
def fitRow (h : Nat) (l : List T) : Prop := ∀ t ∈ l, T.fit h t
theorem base_fit {s : ByteArray} (h : 1 < (baseT s).length) : fitRow 0 (baseT s) := by
  intro t ht
  rw [base_len] at h
  simp only [baseT, chunksS, List.mem_map] at ht
  obtain ⟨x, hx, rfl⟩ := ht
  have h1 := cutS_size _ _ (sizes_sum _ _ (by decide)) x hx
  simp only [sizesN, List.mem_map, List.mem_range] at h1
  obtain ⟨i, hi, h1⟩ := h1
  have hp : 0 < s.size := by
    rcases Nat.eq_zero_or_pos s.size with e | e
    · rw [e] at h; simp [grpN] at h
    · exact e
  have a := sz_ge (n := s.size) (m := 16) (k := 8) (i := i) rfl (by decide) h
  have b := sz_le (n := s.size) (m := 16) (i := i) hp (by decide)
  exact ⟨by omega, by omega⟩
theorem rowUp_parts {l : List T} (h : 1 < l.length) : ∀ x ∈ cutL (sizesN l.length 4) l, 2 ≤ x.length ∧ x.length ≤ 4 ∧ ∀ t ∈ x, t ∈ l := by
  intro x hx
  have hs := sizes_sum l.length 4 (by decide)
  have h1 := cutL_size _ _ hs x hx
  simp only [sizesN, List.mem_map, List.mem_range] at h1
  obtain ⟨i, hi, h1⟩ := h1
  have b := sz_le (n := l.length) (m := 4) (i := i) (by omega) (by decide)
  have a : 2 ≤ szAt l.length (grpN l.length 4) i := by
    by_cases hg : 1 < grpN l.length 4
    · exact sz_ge (n := l.length) (m := 4) (k := 2) rfl (by decide) hg
    · have hg1 : grpN l.length 4 = 1 := by omega
      unfold szAt
      rw [hg1, Nat.mod_one, if_neg (by omega), Nat.div_one]
      exact h
  refine ⟨by omega, by omega, fun t ht => ?_⟩
  have hf := cutL_flat _ _ hs
  rw [← hf]
  exact List.mem_flatten.2 ⟨x, hx, ht⟩
theorem group_node {x : List T} (h : 2 ≤ x.length) : groupT x = .node ((x.headD (.leaf ByteArray.empty)).ht + 1) x := by
  unfold groupT
  split
  · simp at h
  · rfl
theorem rowUp_fit {h : Nat} {l : List T} (hl : 1 < l.length) (hf : fitRow h l) : fitRow (h + 1) (rowUp l) := by
  intro t ht
  simp only [rowUp, List.mem_map] at ht
  obtain ⟨x, hx, rfl⟩ := ht
  obtain ⟨h1, h2, h3⟩ := rowUp_parts hl x hx
  rw [group_node h1]
  refine ⟨?_, h1, h2, fun t ht => hf t (h3 t ht)⟩
  match x, h1 with
  | y :: _, _ => show y.ht + 1 = h + 1; rw [T.fit_ht (hf y (h3 y (by simp)))]
/-- The height that a row of this length comes to. -/
theorem topT_fit : ∀ (l : List T) (h : Nat), fitRow h l → 0 < l.length → ∃ k t, topT l = [t] ∧ T.fit (h + k) t ∧ l.length ≤ 4 ^ k ∧ 4 ^ k < 4 * l.length := by
  intro l h hf hl
  by_cases h1 : l.length ≤ 1
  · rw [topT_le h1]
    match l, h1, hl with
    | [t], _, _ => exact ⟨0, t, rfl, hf t (by simp), by simp, by simp⟩
  · rw [topT_up (by omega)]
    obtain ⟨k, t, e, hk, a, b⟩ := topT_fit (rowUp l) (h + 1) (rowUp_fit (by omega) hf) (by rw [rowUp_len]; exact grp_pos hl (by decide))
    rw [rowUp_len] at a b
    have g := grp_le (n := l.length) (m := 4) (by decide)
    refine ⟨k + 1, t, e, by rw [show h + (k + 1) = h + 1 + k by omega]; exact hk, by rw [Nat.pow_succ]; omega, ?_⟩
    rw [Nat.pow_succ]
    rcases Nat.eq_zero_or_pos k with rfl | hk0
    · simp; omega
    · obtain ⟨m, rfl⟩ : ∃ m, k = m + 1 := ⟨k - 1, by omega⟩
      rw [Nat.pow_succ] at a b ⊢
      omega
termination_by l => l.length
decreasing_by exact rowUp_lt (by omega)
/-- The plan of a text that is not empty and not long. -/
theorem build_good {s : ByteArray} (h0 : 0 < s.size) (h1 : s.size ≤ 65536) : ∃ t, buildT s = [t] ∧ t.good ∧ t.bytes = s.size := by
  have hb := build_bytes s
  have hl : 0 < (baseT s).length := by rw [base_len]; exact grp_pos h0 (by decide)
  by_cases h2 : 1 < (baseT s).length
  · obtain ⟨k, t, e, hf, a, b⟩ := topT_fit (baseT s) 0 (base_fit h2) hl
    refine ⟨t, e, .inr ⟨k, ?_, by rw [Nat.zero_add] at hf; exact hf⟩, ?_⟩
    · rw [base_len] at b
      have g := (grp_le (n := s.size) (m := 16) (by decide)).2
      rcases Nat.lt_or_ge 16 k with e' | e'
      · have : 4 ^ 17 ≤ 4 ^ k := Nat.pow_le_pow_right (by decide) e'
        have e17 : 4 ^ 17 = 17179869184 := by decide
        omega
      · exact e'
    · rw [show buildT s = topT (baseT s) from rfl, e] at hb
      simpa [T.bytesL] using hb
  · have e1 : (baseT s).length = 1 := by omega
    have e : buildT s = baseT s := topT_le (by omega)
    match hm : baseT s, e1 with
    | [t], _ =>
      rw [hm] at e
      refine ⟨t, e, .inl ?_, by rw [e] at hb; simpa [T.bytesL] using hb⟩
      have ht : t ∈ baseT s := by rw [hm]; simp
      simp only [baseT, List.mem_map] at ht
      obtain ⟨x, hx, rfl⟩ := ht
      rw [e] at hb
      have hx' : x.size = s.size := by simpa [T.bytesL, T.bytes] using hb
      refine ⟨x, rfl, by omega, ?_⟩
      rw [base_len] at e1
      have g := (grp_le (n := s.size) (m := 16) (by decide)).1
      omega
end Go.Proofs.YtefpabicgefciaaGreat
namespace Go.Proofs.YtefpabicgefciaaGreat
open Go.RowKit
set_option linter.unusedVariables false
set_option linter.unusedSimpArgs false
set_option linter.unusedSectionVars false
set_option maxRecDepth 100000 in
set_option maxHeartbeats 1000000 in
theorem sizes0 (w : World) : Calls Tryz.prog 176 #[.int .i64 0, .int .i64 16] w fun e w' => e = .returned (.slice none 0 0) ∧ Ch (fun _ => False) w w' := by
  go_enter Tryz.func176, Tryz.ntmps176
  go_wp2_with fail
  go_ret
  exact ⟨rfl, by (repeat (first | exact Ch.refl _ _ | refine Ch.setCell ?_ (fun h => absurd h (by simp)) _ | refine Ch.alloc ?_ _ | refine Ch.drewN ?_ _))⟩
set_option maxRecDepth 100000 in
set_option maxHeartbeats 1000000 in
theorem chunks0 (w : World) : Calls Tryz.prog 154 #[(.string ⟨#[]⟩)] w fun e w' => e = .returned (.slice none 0 0) ∧ Ch (fun _ => False) w w' := by
  go_enter Tryz.func154, Tryz.ntmps154
  go_wp2_with fail
  refine (sizes0 _).mono ?_
  rintro e w1 ⟨rfl, hc⟩
  go_wp2_with fail
  go_loopw [0, 3, 10] (fun s v i wr => s = (.string ⟨#[]⟩) ∧ v = (.slice none 0 0) ∧ i = .int .i64 0 ∧ wr = w1) (fun _ _ _ _ => 0)
  case atStart => exact ⟨rfl, rfl, rfl, rfl⟩
  case round =>
    obtain ⟨rfl, rfl, rfl, rfl⟩ := hrel
    go_wp2_with fail
    go_ret
    exact ⟨rfl, hc⟩
set_option maxRecDepth 100000 in
set_option maxHeartbeats 1000000 in
theorem group0 (w : World) : Calls Tryz.prog 156 #[(.slice none 0 0)] w fun e w' => e = .returned ((.agg #[.int .u64 0, .int .i64 0, .int .i64 0, .int .i64 0, .int .i64 0, .string ⟨#[]⟩, .slice none 0 0])) ∧ Ch (fun _ => False) w w' := by
  go_enter Tryz.func156, Tryz.ntmps156
  go_wp2_with fail
  refine bodyPost_ret (v := (.agg #[.int .u64 0, .int .i64 0, .int .i64 0, .int .i64 0, .int .i64 0, .string ⟨#[]⟩, .slice none 0 0])) ?_ rfl ⟨rfl, ?_⟩
  · simp [results, Tryz.results156, go_sem]
  · (repeat (first | exact Ch.refl _ _ | refine Ch.setCell ?_ (fun h => absurd h (by simp)) _ | refine Ch.alloc ?_ _ | refine Ch.drewN ?_ _))
set_option maxRecDepth 100000 in
set_option maxHeartbeats 1000000 in
theorem build0 (w : World) : Calls Tryz.prog 107 #[(.string ⟨#[]⟩)] w fun e w' => e = .returned (.tuple #[(.agg #[.int .u64 0, .int .i64 0, .int .i64 0, .int .i64 0, .int .i64 0, .string ⟨#[]⟩, .slice none 0 0]), .int .i64 0]) ∧ Ch (fun _ => False) w w' := by
  go_enter Tryz.func107, Tryz.ntmps107
  go_wp2_with fail
  refine calls_world fun W1 hW1 => ?_
  have cW : Ch (fun _ => False) w W1 := by rw [hW1]; exact (Ch.refl _ w).alloc _
  have bT : Blk W1 w.heap.size 152 #[.int .u64 0, .int .i64 0, .int .i64 0, .int .i64 0, .int .i64 0, .string ⟨#[]⟩, .slice none 0 0] := by rw [hW1]; exact Blk.new w _ _
  have HC := hid cW
  have HB := hid bT
  have hlt := bT.lt
  clear hW1 cW bT
  refine (chunks0 W1).mono ?_
  rintro e w2 ⟨rfl, hc⟩
  have B2 := hc.blk HB.out id
  have HC2 := hid (HC.out.trans hc (fun _ _ h => h))
  have r0 : w2.cell? ⟨w.heap.size, 0, none⟩ = some (.int .u64 0) := B2.cell 0
  have r1 : w2.cell? ⟨w.heap.size, 1, none⟩ = some (.int .i64 0) := B2.cell 1
  have r2 : w2.cell? ⟨w.heap.size, 2, none⟩ = some (.int .i64 0) := B2.cell 2
  have r3 : w2.cell? ⟨w.heap.size, 3, none⟩ = some (.int .i64 0) := B2.cell 3
  have r4 : w2.cell? ⟨w.heap.size, 4, none⟩ = some (.int .i64 0) := B2.cell 4
  have r5 : w2.cell? ⟨w.heap.size, 5, none⟩ = some (.string ⟨#[]⟩) := B2.cell 5
  have r6 : w2.cell? ⟨w.heap.size, 6, none⟩ = some (.slice none 0 0) := B2.cell 6
  have s0 := B2.free 0
  have s1 := B2.free 1
  have s2 := B2.free 2
  have s3 := B2.free 3
  have s4 := B2.free 4
  have s5 := B2.free 5
  have s6 := B2.free 6
  clear hc
  go_wp2_with fail
  go_loopw [4, 19] (fun r i W => r = (.slice none 0 0) ∧ i = .int .i64 0 ∧ W = w2) (fun _ _ _ => 0)
  case atStart => exact ⟨rfl, rfl, rfl⟩
  case round =>
    obtain ⟨rfl, rfl, rfl⟩ := hrel
    go_wp2_with fail
    go_loopw [4] (fun r W => r = (.slice none 0 0) ∧ W = wr) (fun _ _ => 0)
    case atStart => exact ⟨rfl, rfl⟩
    case round =>
      obtain ⟨rfl, rfl⟩ := hrel
      go_wp2_with fail
      clear r0 s0 r1 s1 r2 s2 r3 s3 r4 s4 r5 s5 r6 s6
      refine (group0 _).mono ?_
      rintro e w3 ⟨rfl, hc⟩
      have B3 := hc.blk B2 id
      have HC3 := hid (HC2.out.trans hc (fun _ _ h => h))
      have r0 : w3.cell? ⟨w.heap.size, 0, none⟩ = some (.int .u64 0) := B3.cell 0
      have r1 : w3.cell? ⟨w.heap.size, 1, none⟩ = some (.int .i64 0) := B3.cell 1
      have r2 : w3.cell? ⟨w.heap.size, 2, none⟩ = some (.int .i64 0) := B3.cell 2
      have r3 : w3.cell? ⟨w.heap.size, 3, none⟩ = some (.int .i64 0) := B3.cell 3
      have r4 : w3.cell? ⟨w.heap.size, 4, none⟩ = some (.int .i64 0) := B3.cell 4
      have r5 : w3.cell? ⟨w.heap.size, 5, none⟩ = some (.string ⟨#[]⟩) := B3.cell 5
      have r6 : w3.cell? ⟨w.heap.size, 6, none⟩ = some (.slice none 0 0) := B3.cell 6
      have s0 := B3.free 0
      have s1 := B3.free 1
      have s2 := B3.free 2
      have s3 := B3.free 3
      have s4 := B3.free 4
      have s5 := B3.free 5
      have s6 := B3.free 6
      clear hc
      go_wp2_with fail
      refine at_world fun W7 hW7 => ?_
      have B7 : Blk W7 w.heap.size 152 #[.int .u64 0, .int .i64 0, .int .i64 0, .int .i64 0, .int .i64 0, .string ⟨#[]⟩, .slice none 0 0] := by rw [hW7]; exact (((((((B3.put 0 _).put 1 _).put 2 _).put 3 _).put 4 _).put 5 _).put 6 _)
      have c7 : Ch (fun k => k = w.heap.size) w3 W7 := by rw [hW7]; exact ((((((((Ch.refl (fun k => k = w.heap.size) w3).set (fun _ => rfl) _).set (fun _ => rfl) _).set (fun _ => rfl) _).set (fun _ => rfl) _).set (fun _ => rfl) _).set (fun _ => rfl) _).set (fun _ => rfl) _)
      have t0 : W7.cell? ⟨w.heap.size, 0, none⟩ = some (.int .u64 0) := B7.cell 0
      have t1 : W7.cell? ⟨w.heap.size, 1, none⟩ = some (.int .i64 0) := B7.cell 1
      have t2 : W7.cell? ⟨w.heap.size, 2, none⟩ = some (.int .i64 0) := B7.cell 2
      have t3 : W7.cell? ⟨w.heap.size, 3, none⟩ = some (.int .i64 0) := B7.cell 3
      have t4 : W7.cell? ⟨w.heap.size, 4, none⟩ = some (.int .i64 0) := B7.cell 4
      have t5 : W7.cell? ⟨w.heap.size, 5, none⟩ = some (.string ⟨#[]⟩) := B7.cell 5
      have t6 : W7.cell? ⟨w.heap.size, 6, none⟩ = some (.slice none 0 0) := B7.cell 6
      refine bodyPost_ret (v := .tuple #[(.agg #[.int .u64 0, .int .i64 0, .int .i64 0, .int .i64 0, .int .i64 0, .string ⟨#[]⟩, .slice none 0 0]), .int .i64 0]) ?_ rfl ⟨rfl, HC3.out.trans c7 (fun i hi e => absurd hi (by omega))⟩
      clear hW7 c7
      simp [results, Tryz.results107, go_sem, t0, t1, t2, t3, t4, t5, t6]
set_option maxRecDepth 100000 in
set_option maxHeartbeats 1000000 in
theorem kind0 (w : World) : Calls Tryz.prog 198 #[(.agg #[.int .u64 0, .int .i64 0, .int .i64 0, .int .i64 0, .int .i64 0, .string ⟨#[]⟩, .slice none 0 0])] w fun e w' => e = .returned (.int .i64 1) ∧ Ch (fun _ => False) w w' := by
  go_enter Tryz.func198, Tryz.ntmps198
  go_wp2_with fail
  go_ret
  exact ⟨rfl, by (repeat (first | exact Ch.refl _ _ | refine Ch.setCell ?_ (fun h => absurd h (by simp)) _ | refine Ch.alloc ?_ _ | refine Ch.drewN ?_ _))⟩
set_option maxRecDepth 100000 in
set_option maxHeartbeats 1000000 in
theorem planCheck0 (p : Nat) (w : World) : Calls Tryz.prog 177 #[.pointer (some ⟨p, 0, none⟩), (.agg #[.int .u64 0, .int .i64 0, .int .i64 0, .int .i64 0, .int .i64 0, .string ⟨#[]⟩, .slice none 0 0])] w fun e w' => e = .returned (.int .i64 0) ∧ Ch (fun _ => False) w w' := by
  go_enter Tryz.func177, Tryz.ntmps177
  go_wp2_with fail
  refine (kind0 _).mono ?_
  rintro e w1 ⟨rfl, hc⟩
  have HC := hid (((Ch.refl (fun _ => False) w).alloc _).trans hc (fun _ _ h => h))
  clear hc
  go_wp2_with fail
  go_ret
  exact ⟨rfl, HC.out⟩
set_option maxRecDepth 100000 in
set_option maxHeartbeats 1000000 in
theorem planNew0 (w : World) : Calls Tryz.prog 178 #[(.agg #[.int .u64 0, .int .i64 0, .int .i64 0, .int .i64 0, .int .i64 0, .string ⟨#[]⟩, .slice none 0 0])] w fun e w' => e = .returned (.int .i64 0) ∧ Ch (fun _ => False) w w' := by
  go_enter Tryz.func178, Tryz.ntmps178
  go_wp2_with fail
  refine calls_world fun W1 hW1 => ?_
  have cW : Ch (fun _ => False) w W1 := by rw [hW1]; exact (Ch.refl _ w).alloc _
  have bT : Blk W1 w.heap.size 152 #[.int .u64 0, .int .i64 0, .int .i64 0, .int .i64 0, .int .i64 0, .string ⟨#[]⟩, .slice none 0 0] := by rw [hW1]; exact Blk.new w _ _
  have HC := hid cW
  have HB := hid bT
  have hlt := bT.lt
  clear hW1 cW bT
  refine (kind0 W1).mono ?_
  rintro e w2 ⟨rfl, hc⟩
  have B2 := hc.blk HB.out id
  have HC2 := hid (HC.out.trans hc (fun _ _ h => h))
  have r0 : w2.cell? ⟨w.heap.size, 0, none⟩ = some (.int .u64 0) := B2.cell 0
  have r1 : w2.cell? ⟨w.heap.size, 1, none⟩ = some (.int .i64 0) := B2.cell 1
  have r2 : w2.cell? ⟨w.heap.size, 2, none⟩ = some (.int .i64 0) := B2.cell 2
  have r3 : w2.cell? ⟨w.heap.size, 3, none⟩ = some (.int .i64 0) := B2.cell 3
  have r4 : w2.cell? ⟨w.heap.size, 4, none⟩ = some (.int .i64 0) := B2.cell 4
  have r5 : w2.cell? ⟨w.heap.size, 5, none⟩ = some (.string ⟨#[]⟩) := B2.cell 5
  have r6 : w2.cell? ⟨w.heap.size, 6, none⟩ = some (.slice none 0 0) := B2.cell 6
  have s0 := B2.free 0
  have s1 := B2.free 1
  have s2 := B2.free 2
  have s3 := B2.free 3
  have s4 := B2.free 4
  have s5 := B2.free 5
  have s6 := B2.free 6
  clear hc
  go_wp2_with fail
  go_loopw [3, 18] (fun n i W => n = .int .i64 0 ∧ i = .int .i64 0 ∧ W = w2) (fun _ _ _ => 0)
  case atStart => exact ⟨rfl, rfl, rfl⟩
  case round =>
    obtain ⟨rfl, rfl, rfl⟩ := hrel
    go_wp2_with fail
    go_ret
    exact ⟨rfl, HC2.out⟩
end Go.Proofs.YtefpabicgefciaaGreat
