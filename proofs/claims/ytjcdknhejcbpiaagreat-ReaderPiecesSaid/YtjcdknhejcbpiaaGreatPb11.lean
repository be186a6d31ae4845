/- Texts XTree, XArenN, XSep, XFrameS, XFrameN, XKeepI, XFNewG, XAppS, XCnt for XPcs, by trim.py. -/
import Derived.Test.YtjcdknhejcbpiaaGreatPb02
import Derived.Test.YtjcdknhejcbpiaaGreatPb08
import Derived.Test.YtjcdknhejcbpiaaGreatPb05
import Derived.Test.YtjcdknhejcbpiaaGreatPb10
import Derived.Test.YtjcdknhejcbpiaaGreatPb09
import Derived.Test.YtjcdknhejcbpiaaGreatPb01
import Derived.Test.YtjcdknhejcbpiaaGreatProg
import Derived.Lib.Builder
import Derived.Lib.AppendStr
import Derived.Lib.UnsafeStr
import Derived.Laws.Externs
import Derived.OwnWalk
namespace Go.Proofs.YtjcdknhejcbpiaaGreat
open Go.RowKit
set_option linter.unusedVariables false
set_option linter.unusedSimpArgs false
/-- n elements in the least number of groups of at most m. -/
def grpN (n m : Nat) : Nat := n / m + (if 0 < n % m then 1 else 0)
def szAt (n g i : Nat) : Nat := if i < n % g then n / g + 1 else n / g
def sizesN (n m : Nat) : List Nat := (List.range (grpN n m)).map (szAt n (grpN n m))
theorem sizes_len (n m : Nat) : (sizesN n m).length = grpN n m := by simp [sizesN]
theorem sizes_get (n m i : Nat) (h : i < grpN n m) : (sizesN n m)[i]? = some (szAt n (grpN n m) i) := by simp [sizesN, h]
theorem sum_at (q r g : Nat) : ∀ k, ((List.range k).map fun i => if i < r then q + 1 else q).sum = q * k + min k r := by
  intro k
  induction k with
  | zero => simp
  | succ k ih =>
    rw [List.range_succ, List.map_append, List.sum_append, ih]
    simp only [List.map_cons, List.map_nil, List.sum_cons, List.sum_nil, Nat.mul_succ]
    split <;> omega
theorem grp_pos {n m : Nat} (hn : 0 < n) (hm : 0 < m) : 0 < grpN n m := by
  unfold grpN
  split
  · exact Nat.succ_pos _
  · rename_i h
    have h1 : n % m = 0 := by omega
    have h2 := Nat.div_add_mod n m
    rw [h1, Nat.add_zero] at h2
    rcases Nat.eq_zero_or_pos (n / m) with e | e
    · rw [e, Nat.mul_zero] at h2; omega
    · omega
theorem sizes_sum (n m : Nat) (hm : 0 < m) : (sizesN n m).sum = n := by
  rcases Nat.eq_zero_or_pos n with rfl | hn
  · simp [sizesN, grpN]
  · have hg := grp_pos hn hm
    show ((List.range (grpN n m)).map fun i => if i < n % grpN n m then n / grpN n m + 1 else n / grpN n m).sum = n
    rw [sum_at _ _ 0]
    have h1 := Nat.mod_lt n hg
    have h2 := Nat.div_add_mod n (grpN n m)
    rw [Nat.min_eq_right (Nat.le_of_lt h1), Nat.mul_comm]
    exact h2
theorem grp_le {n m : Nat} (hm : 0 < m) : n ≤ m * grpN n m ∧ m * grpN n m < n + m := by
  unfold grpN
  have h2 := Nat.div_add_mod n m
  have h3 := Nat.mod_lt n hm
  split
  · rw [Nat.mul_add]; omega
  · rw [Nat.mul_add]; omega
theorem sz_le {n m i : Nat} (hn : 0 < n) (hm : 0 < m) : szAt n (grpN n m) i ≤ m := by
  have hg := grp_pos hn hm
  have h1 := (grp_le (n := n) hm).1
  have h2 := Nat.div_add_mod n (grpN n m)
  unfold szAt
  split
  · rename_i h
    have : grpN n m * (n / grpN n m) < grpN n m * m := by rw [Nat.mul_comm (grpN n m) m]; omega
    exact Nat.lt_of_mul_lt_mul_left this
  · exact Nat.div_le_of_le_mul (by rw [Nat.mul_comm]; exact h1)
/-- Two groups or more: each has half of the most. -/
theorem sz_ge {n m k i : Nat} (hm : m = 2 * k) (hk : 0 < k) (hg : 1 < grpN n m) : k ≤ szAt n (grpN n m) i := by
  have h1 := (grp_le (n := n) (m := m) (by omega)).2
  have : k ≤ n / grpN n m := by
    rw [Nat.le_div_iff_mul_le (by omega)]
    subst hm
    have h4 : 2 * k * 2 ≤ 2 * k * grpN n (2 * k) := Nat.mul_le_mul_left _ hg
    have h5 : 2 * k * grpN n (2 * k) = 2 * (k * grpN n (2 * k)) := Nat.mul_assoc _ _ _
    omega
  unfold szAt
  split <;> omega
theorem sz_pos {n m i : Nat} (hn : 0 < n) (hm : 1 < m) : 0 < szAt n (grpN n m) i := by
  have hg := grp_pos hn (by omega : 0 < m)
  have h1 := (grp_le (n := n) (m := m) (by omega)).2
  have : 1 ≤ n / grpN n m := by
    rw [Nat.le_div_iff_mul_le hg, Nat.one_mul]
    rcases Nat.lt_or_ge n (grpN n m) with e | e
    · exfalso
      have h2 : m * (n + 1) ≤ m * grpN n m := Nat.mul_le_mul_left _ e
      have h3 : m * (n + 1) = m * n + m := Nat.mul_succ _ _
      have h4 : 2 * n ≤ m * n := Nat.mul_le_mul_right _ hm
      omega
    · exact e
  unfold szAt
  split <;> omega
/-- A list cut into parts of these sizes. -/
def cutL {α : Type} : List Nat → List α → List (List α)
  | [], _ => []
  | n :: ns, l => l.take n :: cutL ns (l.drop n)
theorem cutL_len {α : Type} : ∀ (ns : List Nat) (l : List α), (cutL ns l).length = ns.length
  | [], _ => rfl
  | n :: ns, l => by simp [cutL, cutL_len ns]
theorem cutL_flat {α : Type} : ∀ (ns : List Nat) (l : List α), ns.sum = l.length → (cutL ns l).flatten = l
  | [], l, h => by
    have : l = [] := List.eq_nil_of_length_eq_zero (by simpa using h.symm)
    subst this; rfl
  | n :: ns, l, h => by
    simp only [cutL, List.flatten_cons]
    rw [cutL_flat ns (l.drop n) (by simp at h ⊢; omega), List.take_append_drop]
theorem cutL_get {α : Type} : ∀ (ns : List Nat) (l : List α) (i k : Nat), ns[i]? = some k → (cutL ns l)[i]? = some ((l.drop ((ns.take i).sum)).take k)
  | [], _, i, k, h => by simp at h
  | n :: ns, l, 0, k, h => by simp at h; subst h; simp [cutL]
  | n :: ns, l, i + 1, k, h => by
    have t := cutL_get ns (l.drop n) i k (by simpa using h)
    simp only [cutL, List.getElem?_cons_succ, List.take_succ_cons, List.sum_cons]
    rw [t, List.drop_drop]
theorem cutL_size {α : Type} : ∀ (ns : List Nat) (l : List α), ns.sum = l.length → ∀ x ∈ cutL ns l, x.length ∈ ns
  | [], l, h, x, hx => by simp [cutL] at hx
  | n :: ns, l, h, x, hx => by
    simp only [cutL, List.mem_cons] at hx
    simp at h
    rcases hx with rfl | hx
    · rw [List.length_take, Nat.min_eq_left (by omega)]; exact List.mem_cons_self
    · exact List.mem_cons_of_mem _ (cutL_size ns (l.drop n) (by simp; omega) x hx)
/-- A text cut into parts of these sizes. -/
def cutS : List Nat → ByteArray → List ByteArray
  | [], _ => []
  | n :: ns, s => s.extract 0 n :: cutS ns (s.extract n s.size)
theorem cutS_len : ∀ (ns : List Nat) (s : ByteArray), (cutS ns s).length = ns.length
  | [], _ => rfl
  | n :: ns, s => by simp [cutS, cutS_len ns]
theorem cutS_size : ∀ (ns : List Nat) (s : ByteArray), ns.sum = s.size → ∀ x ∈ cutS ns s, x.size ∈ ns
  | [], s, h, x, hx => by simp [cutS] at hx
  | n :: ns, s, h, x, hx => by
    simp only [cutS, List.mem_cons] at hx
    simp at h
    rcases hx with rfl | hx
    · rw [ByteArray.size_extract, Nat.min_eq_left (by omega)]; exact List.mem_cons_self
    · exact List.mem_cons_of_mem _ (cutS_size ns (s.extract n s.size) (by rw [ByteArray.size_extract]; omega) x hx)
theorem cutS_sum : ∀ (ns : List Nat) (s : ByteArray), ns.sum = s.size → ((cutS ns s).map ByteArray.size).sum = s.size
  | [], s, h => by simpa [cutS] using h
  | n :: ns, s, h => by
    simp at h
    simp only [cutS, List.map_cons, List.sum_cons]
    rw [cutS_sum ns (s.extract n s.size) (by rw [ByteArray.size_extract]; omega), ByteArray.size_extract, ByteArray.size_extract]
    omega
/-- The leaves of a text. -/
def chunksS (s : ByteArray) : List ByteArray := cutS (sizesN s.size 16) s
inductive T where
  | leaf (s : ByteArray)
  | node (h : Nat) (ks : List T)
def T.ht : T → Nat
  | .leaf _ => 0
  | .node h _ => h
theorem T.ind {P : T → Prop} (hl : ∀ s, P (.leaf s)) (hn : ∀ h ks, (∀ t ∈ ks, P t) → P (.node h ks)) : ∀ t, P t
  | .leaf s => hl s
  | .node h ks => hn h ks fun t ht => T.ind hl hn t
termination_by t => SizeOf.sizeOf t
decreasing_by
  have := List.sizeOf_lt_of_mem ht
  simp
  omega
mutual
def T.bytes : T → Nat
  | .leaf s => s.size
  | .node _ ks => T.bytesL ks
def T.bytesL : List T → Nat
  | [] => 0
  | t :: ts => t.bytes + T.bytesL ts
end
mutual
/-- The nodes of a plan. -/
def T.cnt : T → Nat
  | .leaf _ => 1
  | .node _ ks => T.cntL ks + 1
def T.cntL : List T → Nat
  | [] => 0
  | t :: ts => t.cnt + T.cntL ts
end
/-- One row of a plan becomes the next. -/
def groupT (ks : List T) : T := match ks with
  | [t] => t
  | ks => .node ((ks.headD (.leaf ByteArray.empty)).ht + 1) ks
def rowUp (l : List T) : List T := (cutL (sizesN l.length 4) l).map groupT
/-- A plan of this height whose leaves and nodes are all well filled. -/
def T.fit : Nat → T → Prop
  | 0, .leaf s => 8 ≤ s.size ∧ s.size ≤ 16
  | h + 1, .node k ks => k = h + 1 ∧ 2 ≤ ks.length ∧ ks.length ≤ 4 ∧ ∀ t ∈ ks, T.fit h t
  | _, _ => False
theorem T.fit_ht : ∀ {h : Nat} {t : T}, T.fit h t → t.ht = h
  | 0, .leaf s, _ => rfl
  | h + 1, .node k ks, e => e.1
  | 0, .node _ _, e => e.elim
  | h + 1, .leaf _, e => e.elim
/-- A plan of a text that is not empty. -/
def T.good (t : T) : Prop := (∃ s : ByteArray, t = .leaf s ∧ 1 ≤ s.size ∧ s.size ≤ 16) ∨ ∃ h, h ≤ 16 ∧ T.fit h t
theorem rowUp_len (l : List T) : (rowUp l).length = grpN l.length 4 := by simp [rowUp, cutL_len, sizes_len]
theorem rowUp_lt {l : List T} (h : 1 < l.length) : (rowUp l).length < l.length := by
  rw [rowUp_len]
  have := (grp_le (n := l.length) (m := 4) (by decide)).2
  omega
/-- The last row. -/
def topT (l : List T) : List T := if h : l.length ≤ 1 then l else topT (rowUp l)
termination_by l.length
decreasing_by exact rowUp_lt (by omega)
theorem topT_le {l : List T} (h : l.length ≤ 1) : topT l = l := by rw [topT, dif_pos h]
theorem topT_up {l : List T} (h : 1 < l.length) : topT l = topT (rowUp l) := by
  conv => lhs; rw [topT]
  rw [dif_neg (by omega)]
def baseT (s : ByteArray) : List T := (chunksS s).map .leaf
/-- The plan of a text. -/
def buildT (s : ByteArray) : List T := topT (baseT s)
theorem bytesL_sum (l : List T) : T.bytesL l = (l.map T.bytes).sum := by
  induction l with
  | nil => rfl
  | cons t l ih => simp [T.bytesL, ih]
theorem cntL_sum (l : List T) : T.cntL l = (l.map T.cnt).sum := by
  induction l with
  | nil => rfl
  | cons t l ih => simp [T.cntL, ih]
theorem group_bytes (l : List T) (h : l ≠ []) : (groupT l).bytes = T.bytesL l := by
  unfold groupT
  split
  · simp [T.bytesL]
  · simp [T.bytes]
theorem rowUp_bytes (l : List T) : T.bytesL (rowUp l) = T.bytesL l := by
  have hs := sizes_sum l.length 4 (by decide)
  have hp : ∀ x ∈ cutL (sizesN l.length 4) l, x ≠ [] := by
    intro x hx
    have h1 := cutL_size _ _ hs x hx
    simp only [sizesN, List.mem_map, List.mem_range] at h1
    obtain ⟨i, hi, h1⟩ := h1
    rcases Nat.eq_zero_or_pos l.length with e | e
    · rw [e] at hi; simp [grpN] at hi
    · have := sz_pos (m := 4) (i := i) e (by decide)
      intro hn
      subst hn
      simp at h1
      omega
  have hf := cutL_flat _ _ hs
  unfold rowUp
  conv => rhs; rw [← hf]
  generalize cutL (sizesN l.length 4) l = L at hp
  induction L with
  | nil => rfl
  | cons x L ih =>
    simp only [List.map_cons, T.bytesL, List.flatten_cons, bytesL_sum, List.map_append, List.sum_append, List.sum_cons]
    rw [group_bytes x (hp x (by simp)), bytesL_sum]
    have := ih (fun y hy => hp y (by simp [hy]))
    simp only [bytesL_sum] at this
    rw [this]
theorem topT_bytes (l : List T) : T.bytesL (topT l) = T.bytesL l := by
  by_cases h1 : l.length ≤ 1
  · rw [topT_le h1]
  · rw [topT_up (by omega), topT_bytes (rowUp l), rowUp_bytes]
termination_by l.length
decreasing_by exact rowUp_lt (by omega)
theorem base_bytes (s : ByteArray) : T.bytesL (baseT s) = s.size := by
  have h := cutS_sum (sizesN s.size 16) s (sizes_sum _ _ (by decide))
  rw [bytesL_sum]
  simpa [baseT, chunksS, Function.comp_def, T.bytes] using h
theorem base_len (s : ByteArray) : (baseT s).length = grpN s.size 16 := by simp [baseT, chunksS, cutS_len, sizes_len]
theorem build_bytes (s : ByteArray) : T.bytesL (buildT s) = s.size := by rw [buildT, topT_bytes, base_bytes]
/-- Every plan of a row is well filled. -/
def fitRow (h : Nat) (l : List T) : Prop := ∀ t ∈ l, T.fit h t
theorem base_fit {s : ByteArray} (h : 1 < (baseT s).length) : fitRow 0 (baseT s) := by
  intro t ht
  rw [base_len] at h
  simp only [baseT, chunksS, List.mem_map] at ht
  obtain ⟨x, hx, rfl⟩ := ht
  have h1 := cutS_size _ _ (sizes_sum _ _ (by decide)) x hx
  simp only [sizesN, List.mem_map, List.mem_range] at h1
  obtain ⟨i, hi, h1⟩ := h1
  have hp : 0 < s.size := by
    rcases Nat.eq_zero_or_pos s.size with e | e
    · rw [e] at h; simp [grpN] at h
    · exact e
  have a := sz_ge (n := s.size) (m := 16) (k := 8) (i := i) rfl (by decide) h
  have b := sz_le (n := s.size) (m := 16) (i := i) hp (by decide)
  exact ⟨by omega, by omega⟩
theorem rowUp_parts {l : List T} (h : 1 < l.length) : ∀ x ∈ cutL (sizesN l.length 4) l, 2 ≤ x.length ∧ x.length ≤ 4 ∧ ∀ t ∈ x, t ∈ l := by
  intro x hx
  have hs := sizes_sum l.length 4 (by decide)
  have h1 := cutL_size _ _ hs x hx
  simp only [sizesN, List.mem_map, List.mem_range] at h1
  obtain ⟨i, hi, h1⟩ := h1
  have b := sz_le (n := l.length) (m := 4) (i := i) (by omega) (by decide)
  have a : 2 ≤ szAt l.length (grpN l.length 4) i := by
    by_cases hg : 1 < grpN l.length 4
    · exact sz_ge (n := l.length) (m := 4) (k := 2) rfl (by decide) hg
    · have hg1 : grpN l.length 4 = 1 := by omega
      unfold szAt
      rw [hg1, Nat.mod_one, if_neg (by omega), Nat.div_one]
      exact h
  refine ⟨by omega, by omega, fun t ht => ?_⟩
  have hf := cutL_flat _ _ hs
  rw [← hf]
  exact List.mem_flatten.2 ⟨x, hx, ht⟩
theorem group_node {x : List T} (h : 2 ≤ x.length) : groupT x = .node ((x.headD (.leaf ByteArray.empty)).ht + 1) x := by
  unfold groupT
  split
  · simp at h
  · rfl
theorem rowUp_fit {h : Nat} {l : List T} (hl : 1 < l.length) (hf : fitRow h l) : fitRow (h + 1) (rowUp l) := by
  intro t ht
  simp only [rowUp, List.mem_map] at ht
  obtain ⟨x, hx, rfl⟩ := ht
  obtain ⟨h1, h2, h3⟩ := rowUp_parts hl x hx
  rw [group_node h1]
  refine ⟨?_, h1, h2, fun t ht => hf t (h3 t ht)⟩
  match x, h1 with
  | y :: _, _ => show y.ht + 1 = h + 1; rw [T.fit_ht (hf y (h3 y (by simp)))]
/-- The height that a row of this length comes to. -/
theorem topT_fit : ∀ (l : List T) (h : Nat), fitRow h l → 0 < l.length → ∃ k t, topT l = [t] ∧ T.fit (h + k) t ∧ l.length ≤ 4 ^ k ∧ 4 ^ k < 4 * l.length := by
  intro l h hf hl
  by_cases h1 : l.length ≤ 1
  · rw [topT_le h1]
    match l, h1, hl with
    | [t], _, _ => exact ⟨0, t, rfl, hf t (by simp), by simp, by simp⟩
  · rw [topT_up (by omega)]
    obtain ⟨k, t, e, hk, a, b⟩ := topT_fit (rowUp l) (h + 1) (rowUp_fit (by omega) hf) (by rw [rowUp_len]; exact grp_pos hl (by decide))
    rw [rowUp_len] at a b
    have g := grp_le (n := l.length) (m := 4) (by decide)
    refine ⟨k + 1, t, e, by rw [show h + (k + 1) = h + 1 + k by omega]; exact hk, by rw [Nat.pow_succ]; omega, ?_⟩
    rw [Nat.pow_succ]
    rcases Nat.eq_zero_or_pos k with rfl | hk0
    · simp; omega
    · obtain ⟨m, rfl⟩ : ∃ m, k = m + 1 := ⟨k - 1, by omega⟩
      rw [Nat.pow_succ] at a b ⊢
      omega
termination_by l => l.length
decreasing_by exact rowUp_lt (by omega)
/-- The plan of a text that is not empty and not long. -/
theorem build_good {s : ByteArray} (h0 : 0 < s.size) (h1 : s.size ≤ 65536) : ∃ t, buildT s = [t] ∧ t.good ∧ t.bytes = s.size := by
  have hb := build_bytes s
  have hl : 0 < (baseT s).length := by rw [base_len]; exact grp_pos h0 (by decide)
  by_cases h2 : 1 < (baseT s).length
  · obtain ⟨k, t, e, hf, a, b⟩ := topT_fit (baseT s) 0 (base_fit h2) hl
    refine ⟨t, e, .inr ⟨k, ?_, by rw [Nat.zero_add] at hf; exact hf⟩, ?_⟩
    · rw [base_len] at b
      have g := (grp_le (n := s.size) (m := 16) (by decide)).2
      rcases Nat.lt_or_ge 16 k with e' | e'
      · have : 4 ^ 17 ≤ 4 ^ k := Nat.pow_le_pow_right (by decide) e'
        have e17 : 4 ^ 17 = 17179869184 := by decide
        omega
      · exact e'
    · rw [show buildT s = topT (baseT s) from rfl, e] at hb
      simpa [T.bytesL] using hb
  · have e1 : (baseT s).length = 1 := by omega
    have e : buildT s = baseT s := topT_le (by omega)
    match hm : baseT s, e1 with
    | [t], _ =>
      rw [hm] at e
      refine ⟨t, e, .inl ?_, by rw [e] at hb; simpa [T.bytesL] using hb⟩
      have ht : t ∈ baseT s := by rw [hm]; simp
      simp only [baseT, List.mem_map] at ht
      obtain ⟨x, hx, rfl⟩ := ht
      rw [e] at hb
      have hx' : x.size = s.size := by simpa [T.bytesL, T.bytes] using hb
      refine ⟨x, rfl, by omega, ?_⟩
      rw [base_len] at e1
      have g := (grp_le (n := s.size) (m := 16) (by decide)).1
      omega
end Go.Proofs.YtjcdknhejcbpiaaGreat
namespace Go.Proofs.YtjcdknhejcbpiaaGreat
open Go.RowKit
set_option linter.unusedVariables false
set_option linter.unusedSimpArgs false
theorem ArP.nil : ArP [] := ⟨fun y hy => by simp at hy, fun i y hi => by simp at hi⟩
theorem arena_new (n : Nat) (g : Int) (h1 : 1 ≤ n) (h2 : n ≤ 16384) (g1 : 1 ≤ g) (g2 : g ≤ 4294967295) (w : World) : Calls Tryz.prog 46 #[.int .i64 (n : Int), .int .u64 g] w fun e w' => ∃ A : ArA, A.n = n ∧ A.g = g ∧ e = .returned (.tuple #[.pointer (some ⟨A.ab, 0, none⟩), .int .i64 0]) ∧ ArM A w' [] 0 ∧ Ch (fun _ => False) w w' ∧ ∀ k, A.foot [] k → w.heap.size ≤ k := by
  refine (anew_ok n g h1 h2 g1 g2 w).mono ?_
  rintro e w' ⟨ab, lb, mb, rfl, hA, hC, z1, z2, z3, q0, q1, q2, hf, y0, y1, y2⟩
  have e : fillA (fun _ => Value.int .u8 1) (.int .u8 0) n 0 = fillA (fun _ => .int .u8 0) (.int .u8 0) n n := by simp [fillA]
  have t := hf.b1
  rw [← e] at t
  refine ⟨⟨ab, lb, mb, q0, q1, q2, n, g⟩, rfl, rfl, rfl, ⟨hA.a, hf.l, hf.b0, t, hf.b2, ⟨[], rfl, hA.m⟩, Nat.zero_le _, fun y hy => by simp at hy, fun y hy => by simp at hy, fun y hy => by simp at hy⟩, hC, ?_⟩
  rintro k ((rfl | rfl | rfl | rfl) | rfl | rfl | ⟨y, hy, _⟩) <;> first | assumption | simp at hy
end Go.Proofs.YtjcdknhejcbpiaaGreat
namespace Go.Proofs.YtjcdknhejcbpiaaGreat
open Go.RowKit
set_option linter.unusedVariables false
set_option linter.unusedSimpArgs false
/-- A thing in memory: what it says, and which blocks it stands on. -/
structure Res where
  holds : World → Prop
  foot : Nat → Prop
  stable : ∀ {w w' : World} {fp : Nat → Prop}, holds w → Ch fp w w' → (∀ k, foot k → ¬ fp k) → holds w'
  lt : ∀ {w : World}, holds w → ∀ k, foot k → k < w.heap.size
def blkR (g : Nat) (t : TypeId) (cs : Array Value) : Res where
  holds w := Blk w g t cs
  foot k := k = g
  stable h c hn := c.blk h (hn g rfl)
  lt h k hk := by rw [hk]; exact h.lt
def rowR (B : Nat) (e : TypeId) (size n : Nat) (v : Value) (xs : List Value) : Res where
  holds w := w.ownsRow B e size v n xs
  foot k := v.ownBlock = some k
  stable h c hn := c.own h hn
  lt h k hk := (h.lt k hk).2
/-- The things of a list lie apart, above B; below B nothing has changed since w0. -/
structure Mem (B : Nat) (w0 : World) (L : List Res) (w : World) : Prop where
  each : ∀ (i : Nat) (r : Res), L[i]? = some r → r.holds w
  apart : ∀ (i j : Nat) (r s : Res), L[i]? = some r → L[j]? = some s → i ≠ j → ∀ k, r.foot k → ¬ s.foot k
  low : ∀ (i : Nat) (r : Res), L[i]? = some r → ∀ k, r.foot k → B ≤ k
  bel : Below B w0 w
  bz : B ≤ w.heap.size
theorem Ch.belowB {fp : Nat → Prop} {w w' : World} {B : Nat} (c : Ch fp w w') (hB : B ≤ w.heap.size) (hf : ∀ k, k < w.heap.size → fp k → B ≤ k) : Below B w w' :=
  ⟨c.os, c.tape, c.output, c.size, fun k hk => c.block k (by omega) (fun e => by have := hf k (by omega) e; omega)⟩
section
variable {B : Nat} {w0 w w' : World} {L : List Res} {fp : Nat → Prop}
theorem Mem.keep (h : Mem B w0 L w) (c : Ch (fun _ => False) w w') : Mem B w0 L w' :=
  ⟨fun i r hi => r.stable (h.each i r hi) c (fun _ _ => id), h.apart, h.low, h.bel.trans (c.belowB h.bz (fun _ _ e => e.elim)), Nat.le_trans h.bz c.size⟩
theorem Mem.drewN (h : Mem B w0 L w) (n : Nat) : Mem B w0 L (w.drewN n) := h.keep ((Ch.refl _ w).drewN n)
theorem Mem.alloc (h : Mem B w0 L w) (o : Obj) : Mem B w0 L (w.alloc o) := h.keep ((Ch.refl _ w).alloc o)
theorem mem_set {L : List Res} {i j : Nat} {r s : Res} (h : (L.set i r)[j]? = some s) : (j = i ∧ s = r ∧ i < L.length) ∨ (j ≠ i ∧ L[j]? = some s) := by
  rw [List.getElem?_set] at h
  split at h
  · rename_i e
    split at h
    · rename_i hl
      exact .inl ⟨e.symm, (Option.some.inj h).symm, hl⟩
    · cases h
  · rename_i e
    exact .inr ⟨fun e' => e e'.symm, h⟩
/-- One thing has changed. -/
theorem Mem.upd (h : Mem B w0 L w) {i : Nat} {r : Res} (r' : Res) (hi : L[i]? = some r) (c : Ch fp w w') (hfp : ∀ k, k < w.heap.size → fp k → r.foot k) (h' : r'.holds w') (hf : ∀ k, r'.foot k → r.foot k ∨ w.heap.size ≤ k) : Mem B w0 (L.set i r') w' := by
  have hk : ∀ (j : Nat) (s : Res), L[j]? = some s → j ≠ i → ∀ k, s.foot k → ¬ fp k := fun j s hj hne k hs hp => h.apart i j r s hi hj (Ne.symm hne) k (hfp k (s.lt (h.each j s hj) k hs) hp) hs
  have hr' : ∀ (j : Nat) (s : Res), L[j]? = some s → j ≠ i → ∀ k, r'.foot k → ¬ s.foot k := fun j s hj hne k hr hs => by
    rcases hf k hr with e | e
    · exact h.apart i j r s hi hj (Ne.symm hne) k e hs
    · have := s.lt (h.each j s hj) k hs
      omega
  refine ⟨fun j s hj => ?_, fun j j' s s' hj hj' hne k hs hs' => ?_, fun j s hj k hs => ?_, h.bel.trans (c.belowB h.bz (fun k hk hp => h.low i r hi k (hfp k hk hp))), Nat.le_trans h.bz c.size⟩
  · rcases mem_set hj with ⟨rfl, rfl, _⟩ | ⟨hne, hj⟩
    · exact h'
    · exact s.stable (h.each j s hj) c (hk j s hj hne)
  · rcases mem_set hj with ⟨rfl, rfl, _⟩ | ⟨hn1, hj1⟩
    · rcases mem_set hj' with ⟨rfl, _, _⟩ | ⟨hn2, hj2⟩
      · exact hne rfl
      · exact hr' j' s' hj2 hn2 k hs hs'
    · rcases mem_set hj' with ⟨rfl, rfl, _⟩ | ⟨hn2, hj2⟩
      · exact hr' j s hj1 hn1 k hs' hs
      · exact h.apart j j' s s' hj1 hj2 hne k hs hs'
  · rcases mem_set hj with ⟨rfl, rfl, _⟩ | ⟨hne, hj⟩
    · rcases hf k hs with e | e
      · exact h.low j r hi k e
      · exact Nat.le_trans h.bz e
    · exact h.low j s hj k hs
/-- Two things have changed. -/
theorem Mem.upd2 (h : Mem B w0 L w) {i j : Nat} {r s : Res} (r' s' : Res) (hi : L[i]? = some r) (hj : L[j]? = some s) (hij : i ≠ j) (c : Ch fp w w') (hfp : ∀ k, k < w.heap.size → fp k → r.foot k ∨ s.foot k) (h1 : r'.holds w') (h2 : s'.holds w')
    (hf1 : ∀ k, r'.foot k → r.foot k ∨ w.heap.size ≤ k) (hf2 : ∀ k, s'.foot k → s.foot k) : Mem B w0 ((L.set i r').set j s') w' := by
  have hk : ∀ (m : Nat) (t : Res), L[m]? = some t → m ≠ i → m ≠ j → ∀ k, t.foot k → ¬ fp k := fun m t hm hn1 hn2 k ht hp => by
    rcases hfp k (t.lt (h.each m t hm) k ht) hp with e | e
    · exact h.apart i m r t hi hm (Ne.symm hn1) k e ht
    · exact h.apart j m s t hj hm (Ne.symm hn2) k e ht
  have get : ∀ (m : Nat) (t : Res), ((L.set i r').set j s')[m]? = some t → (m = j ∧ t = s') ∨ (m ≠ j ∧ m = i ∧ t = r') ∨ (m ≠ j ∧ m ≠ i ∧ L[m]? = some t) := fun m t hm => by
    rcases mem_set hm with ⟨rfl, rfl, _⟩ | ⟨hne, hm⟩
    · exact .inl ⟨rfl, rfl⟩
    · rcases mem_set hm with ⟨rfl, rfl, _⟩ | ⟨hn2, hm⟩
      · exact .inr (.inl ⟨hne, rfl, rfl⟩)
      · exact .inr (.inr ⟨hne, hn2, hm⟩)
  have old1 : ∀ (m : Nat) (t : Res), L[m]? = some t → m ≠ i → ∀ k, r'.foot k → ¬ t.foot k := fun m t hm hn k hr ht => by
    rcases hf1 k hr with e | e
    · exact h.apart i m r t hi hm (Ne.symm hn) k e ht
    · have := t.lt (h.each m t hm) k ht
      omega
  have old2 : ∀ (m : Nat) (t : Res), L[m]? = some t → m ≠ j → ∀ k, s'.foot k → ¬ t.foot k := fun m t hm hn k hr ht => h.apart j m s t hj hm (Ne.symm hn) k (hf2 k hr) ht
  have rs : ∀ k, r'.foot k → ¬ s'.foot k := fun k a b => old1 j s hj (Ne.symm hij) k a (hf2 k b)
  refine ⟨fun m t hm => ?_, fun m m' t t' hm hm' hne k ht ht' => ?_, fun m t hm k ht => ?_, h.bel.trans (c.belowB h.bz (fun k hk hp => (hfp k hk hp).elim (h.low i r hi k) (h.low j s hj k))), Nat.le_trans h.bz c.size⟩
  · rcases get m t hm with ⟨rfl, rfl⟩ | ⟨_, rfl, rfl⟩ | ⟨n1, n2, hm⟩
    · exact h2
    · exact h1
    · exact t.stable (h.each m t hm) c (hk m t hm n2 n1)
  · rcases get m t hm with ⟨rfl, rfl⟩ | ⟨_, rfl, rfl⟩ | ⟨n1, n2, hm1⟩
    · rcases get m' t' hm' with ⟨rfl, _⟩ | ⟨_, rfl, rfl⟩ | ⟨n3, n4, hm2⟩
      · exact hne rfl
      · exact rs k ht' ht
      · exact old2 m' t' hm2 n3 k ht ht'
    · rcases get m' t' hm' with ⟨rfl, rfl⟩ | ⟨_, rfl, _⟩ | ⟨n3, n4, hm2⟩
      · exact rs k ht ht'
      · exact hne rfl
      · exact old1 m' t' hm2 n4 k ht ht'
    · rcases get m' t' hm' with ⟨rfl, rfl⟩ | ⟨_, rfl, rfl⟩ | ⟨n3, n4, hm2⟩
      · exact old2 m t hm1 n1 k ht' ht
      · exact old1 m t hm1 n2 k ht' ht
      · exact h.apart m m' t t' hm1 hm2 hne k ht ht'
  · rcases get m t hm with ⟨rfl, rfl⟩ | ⟨_, rfl, rfl⟩ | ⟨n1, n2, hm⟩
    · exact h.low m s hj k (hf2 k ht)
    · rcases hf1 k ht with e | e
      · exact h.low m r hi k e
      · exact Nat.le_trans h.bz e
    · exact h.low m t hm k ht
theorem mem_app {L : List Res} {j : Nat} {r s : Res} (h : (L ++ [r])[j]? = some s) : (j = L.length ∧ s = r) ∨ L[j]? = some s := by
  rw [List.getElem?_append] at h
  split at h
  · exact .inr h
  · have hj : j - L.length = 0 := by
      have := (List.getElem?_eq_some_iff.1 h).1
      simp at this
      omega
    rw [hj] at h
    simp at h
    exact .inl ⟨by omega, h.symm⟩
/-- A new thing. -/
theorem Mem.add (h : Mem B w0 L w) (r : Res) (c : Ch (fun _ => False) w w') (h' : r.holds w') (hf : ∀ k, r.foot k → w.heap.size ≤ k) : Mem B w0 (L ++ [r]) w' := by
  have hk := h.keep c
  have no : ∀ (j : Nat) (s : Res), L[j]? = some s → ∀ k, s.foot k → ¬ r.foot k := fun j s hj k hs hr => by
    have := s.lt (h.each j s hj) k hs
    have := hf k hr
    omega
  refine ⟨fun j s hj => ?_, fun j j' s s' hj hj' hne k hs hs' => ?_, fun j s hj k hs => ?_, hk.bel, hk.bz⟩
  · rcases mem_app hj with ⟨_, rfl⟩ | hj
    · exact h'
    · exact hk.each j s hj
  · rcases mem_app hj with ⟨rfl, rfl⟩ | hj1
    · rcases mem_app hj' with ⟨rfl, _⟩ | hj2
      · exact hne rfl
      · exact no j' s' hj2 k hs' hs
    · rcases mem_app hj' with ⟨rfl, rfl⟩ | hj2
      · exact no j s hj1 k hs hs'
      · exact h.apart j j' s s' hj1 hj2 hne k hs hs'
  · rcases mem_app hj with ⟨_, rfl⟩ | hj
    · exact Nat.le_trans h.bz (hf k hs)
    · exact h.low j s hj k hs
/-- A cell of a block is set. -/
theorem Mem.put (h : Mem B w0 L w) {i g : Nat} {t : TypeId} {cs : Array Value} (hi : L[i]? = some (blkR g t cs)) (o : Nat) (u : Value) : Mem B w0 (L.set i (blkR g t (cs.setIfInBounds o u))) (w.setCell ⟨g, o, none⟩ u) :=
  h.upd (blkR g t (cs.setIfInBounds o u)) hi ((Ch.refl (fun k => k = g) w).set (fun _ => rfl) u) (fun _ _ e => e) (Blk.put (h.each i _ hi) o u) (fun _ e => .inl e)
/-- An append onto a row. -/
theorem Mem.app (h : Mem B w0 L w) {i e size n n' : Nat} {v v' : Value} {xs xs' : List Value} (hi : L[i]? = some (rowR B e size n v xs)) (hr : w'.ownsRow B e size v' n' xs') (hg : w.grownBy w' v.ownBlock) (hf : Fresh w v v') :
    Mem B w0 (L.set i (rowR B e size n' v' xs')) w' := by
  refine h.upd (rowR B e size n' v' xs') hi ((Ch.refl (fun k => v.ownBlock = some k) w).grown hg (fun k hk _ => hk)) (fun _ _ e => e) hr (fun k hk => ?_)
  rcases hf with e | e
  · exact .inl (by show v.ownBlock = some k; rw [← e]; exact hk)
  · exact .inr (e k hk)
theorem Mem.nil (hB : B ≤ w.heap.size) (hb : Below B w0 w) : Mem B w0 [] w := ⟨fun i r h => by simp at h, fun i j r s h => by simp at h, fun i r h => by simp at h, hb, hB⟩
end
theorem Mem.of {B : Nat} {w0 w : World} {L : List Res} (h1 : ∀ r ∈ L, r.holds w) (h2 : L.Pairwise fun r s => ∀ k, r.foot k → ¬ s.foot k) (h3 : ∀ r ∈ L, ∀ k, r.foot k → B ≤ k) (h4 : Below B w0 w) (h5 : B ≤ w.heap.size) : Mem B w0 L w := by
  refine ⟨fun i r hi => h1 r (List.mem_of_getElem? hi), fun i j r s hi hj hij k hk hs => ?_, fun i r hi => h3 r (List.mem_of_getElem? hi), h4, h5⟩
  have hp := List.pairwise_iff_getElem.1 h2
  obtain ⟨li, ri⟩ := List.getElem?_eq_some_iff.1 hi
  obtain ⟨lj, rj⟩ := List.getElem?_eq_some_iff.1 hj
  rcases Nat.lt_or_gt_of_ne hij with h | h
  · exact hp i j li lj h k (by rw [ri]; exact hk) (by rw [rj]; exact hs)
  · exact hp j i lj li h k (by rw [rj]; exact hs) (by rw [ri]; exact hk)
theorem Mem.addK {B : Nat} {w0 w : World} {L : List Res} (h : Mem B w0 L w) (r : Res) (h' : r.holds w) (ha : ∀ (i : Nat) (s : Res), L[i]? = some s → ∀ k, s.foot k → ¬ r.foot k) (hl : ∀ k, r.foot k → B ≤ k) : Mem B w0 (L ++ [r]) w := by
  refine ⟨fun j s hj => ?_, fun j j' s s' hj hj' hne k hs hs' => ?_, fun j s hj k hs => ?_, h.bel, h.bz⟩
  · rcases mem_app hj with ⟨_, rfl⟩ | hj
    · exact h'
    · exact h.each j s hj
  · rcases mem_app hj with ⟨rfl, rfl⟩ | hj1
    · rcases mem_app hj' with ⟨rfl, _⟩ | hj2
      · exact hne rfl
      · exact ha j' s' hj2 k hs' hs
    · rcases mem_app hj' with ⟨rfl, rfl⟩ | hj2
      · exact ha j s hj1 k hs hs'
      · exact h.apart j j' s s' hj1 hj2 hne k hs hs'
  · rcases mem_app hj with ⟨_, rfl⟩ | hj
    · exact hl k hs
    · exact h.low j s hj k hs
theorem Mem.ch {B : Nat} {w0 w : World} {L : List Res} (h : Mem B w0 L w) (hB : B = w0.heap.size) : Ch (fun _ => False) w0 w := ⟨h.bel.os, h.bel.tape, h.bel.output, h.bel.size, fun k hk _ => h.bel.block k (by omega)⟩
theorem Mem.take {B : Nat} {w0 w : World} {L : List Res} (n : Nat) (h : Mem B w0 L w) : Mem B w0 (L.take n) w := by
  have hg : ∀ (i : Nat) (r : Res), (L.take n)[i]? = some r → L[i]? = some r := fun i r hi => by
    rw [List.getElem?_take] at hi
    split at hi
    · exact hi
    · cases hi
  exact ⟨fun i r hi => h.each i r (hg i r hi), fun i j r s hi hj => h.apart i j r s (hg i r hi) (hg j s hj), fun i r hi => h.low i r (hg i r hi), h.bel, h.bz⟩
theorem Mem.perm {B : Nat} {w0 w : World} {L L' : List Res} (h : Mem B w0 L w) (p : L.Perm L') : Mem B w0 L' w := by
  refine Mem.of (fun r hr => ?_) ?_ (fun r hr => ?_) h.bel h.bz
  · obtain ⟨i, hi⟩ := List.getElem?_of_mem (p.mem_iff.2 hr)
    exact h.each i r hi
  · refine (p.pairwise_iff (fun {x y} hxy k hk hk' => hxy k hk' hk)).1 ?_
    refine List.pairwise_iff_getElem.2 fun i j hi hj hij k hk => ?_
    exact h.apart i j _ _ (List.getElem?_eq_getElem hi) (List.getElem?_eq_getElem hj) (by omega) k hk
  · obtain ⟨i, hi⟩ := List.getElem?_of_mem (p.mem_iff.2 hr)
    exact h.low i r hi
theorem Mem.cons {B : Nat} {w0 w w' : World} {L : List Res} (h : Mem B w0 L w) (r : Res) (c : Ch (fun _ => False) w w') (h' : r.holds w') (hf : ∀ k, r.foot k → w.heap.size ≤ k) : Mem B w0 (r :: L) w' :=
  (h.add r c h' hf).perm (List.perm_append_singleton r L)
theorem Mem.drop {B : Nat} {w0 w : World} {L : List Res} (n : Nat) (h : Mem B w0 L w) : Mem B w0 (L.drop n) w :=
  ⟨fun i r hi => h.each (n + i) r (by rwa [List.getElem?_drop] at hi), fun i j r s hi hj hij => h.apart (n + i) (n + j) r s (by rwa [List.getElem?_drop] at hi) (by rwa [List.getElem?_drop] at hj) (by omega), fun i r hi => h.low (n + i) r (by rwa [List.getElem?_drop] at hi), h.bel, h.bz⟩
end Go.Proofs.YtjcdknhejcbpiaaGreat
namespace Go.Proofs.YtjcdknhejcbpiaaGreat
open Go.RowKit Go.ChangeShapes Go.WideShapes Go.Deep
set_option linter.unusedVariables false
section
variable {H : Type} {enc : TypeId × Value → H} {P : Program} {w : World} {base : Nat} {spare : Nat → Bool} {held : Bool}
end
end Go.Proofs.YtjcdknhejcbpiaaGreat
namespace Go.Proofs.YtjcdknhejcbpiaaGreat
open Go.RowKit Go.ChangeShapes Go.WideShapes Go.Deep
set_option linter.unusedVariables false
set_option linter.unusedSimpArgs false
/-- A plain kind; or a slice of structs of plain kinds. -/
abbrev K0 := Option (Option IntKind)
abbrev K1 := K0 ⊕ List K0
section
variable {H : Type} {enc : TypeId × Value → H} {P : Program} {w : World} {base : Nat} {spare : Nat → Bool} {held : Bool}
end
end Go.Proofs.YtjcdknhejcbpiaaGreat
namespace Go.Proofs.YtjcdknhejcbpiaaGreat
open Go.RowKit
set_option linter.unusedVariables false
set_option linter.unusedSimpArgs false
set_option linter.unusedSectionVars false
/-- A revision that came in. -/
structure InV where
  x : Rv
  am : Option Addr
  n1 : Nat
  c1 : Nat
  ms : List Mk
  ad : Option Addr
  n2 : Nat
  c2 : Nat
  ds : List Pc
def InV.cells (r : InV) : List Value := rvCells r.x (.slice r.am r.n1 r.c1) (.slice r.ad r.n2 r.c2)
def InV.ok (w : World) (r : InV) : Prop := InMk w r.am r.n1 r.ms ∧ InPc w r.ad r.n2 r.ds
/-- The revisions that came in. -/
def InRevs (w : World) (a : Option Addr) (n : Nat) (l : List InV) : Prop :=
  l.length = n ∧ (∀ r ∈ l, r.ok w) ∧ (0 < n → ∃ b off, a = some ⟨b, off, none⟩ ∧ b < w.heap.size ∧ ∀ (i j : Nat) (r : InV) v, l[i]? = some r → r.cells[j]? = some v → w.cell? ⟨b, off + (i * 8 + j), none⟩ = some v)
theorem InRevs.keep {w w' : World} {a : Option Addr} {n : Nat} {l : List InV} (h : InRevs w a n l) (c : Ch (fun _ => False) w w') : InRevs w' a n l :=
  ⟨h.1, fun r hr => ⟨(h.2.1 r hr).1.keep c (fun _ _ _ _ => id), (h.2.1 r hr).2.keep c (fun _ _ _ _ => id)⟩, fun h0 => by
    obtain ⟨b, off, rfl, hb, hc⟩ := h.2.2 h0
    exact ⟨b, off, rfl, Nat.lt_of_lt_of_le hb c.size, fun i j r v hi hj => (c.cell (p := ⟨b, _, none⟩) hb id).trans (hc i j r v hi hj)⟩⟩
theorem Mem.addTwo {B : Nat} {w0 w w' : World} {L : List Res} (h : Mem B w0 L w) (c : Ch (fun _ => False) w w') (r1 r2 : Res) (h1 : r1.holds w') (h2 : r2.holds w') (f1 : ∀ k, r1.foot k → w.heap.size ≤ k) (f2 : ∀ k, r2.foot k → w.heap.size ≤ k)
    (a12 : ∀ k, r1.foot k → ¬ r2.foot k) : Mem B w0 (L ++ [r1, r2]) w' := by
  have t1 := h.add r1 c h1 f1
  have t2 := t1.addK r2 h2 (fun i s hi k hs hr => by
    rcases mem_app hi with ⟨_, rfl⟩ | hi
    · exact a12 k hs hr
    · have := s.lt (h.each i s hi) k hs; have := f2 k hr; omega) (fun k hk => Nat.le_trans h.bz (f2 k hk))
  simpa using t2
end Go.Proofs.YtjcdknhejcbpiaaGreat
namespace Go.Proofs.YtjcdknhejcbpiaaGreat
open Go.RowKit
def fzero (p first n : Nat) : Array Value := #[.pointer (some ⟨p, 0, none⟩), .int .i64 first, .int .i64 n, .int .u64 0, .int .u64 0, .int .u64 0, .bool false, .bool false]
set_option linter.unusedVariables false
set_option linter.unusedSimpArgs false
open Classical in
/-- The error of New. -/
noncomputable def ferr (vs : List Int) (first n : Int) : Int :=
  if n < 1 ∨ 64 < n then 2 else if first < 0 ∨ (vs.length : Int) - 4 - n < first then 3 else if (∃ j : Nat, (j : Int) < 4 + n ∧ lk vs (first.toNat + j) ≠ 0) then 8 else 0
def FOut (k : Int) (w w' : World) (t : TypeId) (cs : Array Value) (e : Ending) : Prop :=
  Ch (fun _ => False) w w' ∧ ((k ≠ 0 ∧ e = .returned (.tuple #[.pointer none, .int .i64 k])) ∨ (k = 0 ∧ ∃ q, w.heap.size ≤ q ∧ e = .returned (.tuple #[.pointer (some ⟨q, 0, none⟩), .int .i64 0]) ∧ Blk w' q t cs))
theorem ferr_2 {vs : List Int} {first n : Int} (h : n < 1 ∨ 64 < n) : ferr vs first n = 2 := by unfold ferr; rw [if_pos h]
theorem ferr_3 {vs : List Int} {first n : Int} (h : ¬ (n < 1 ∨ 64 < n)) (h2 : first < 0 ∨ (vs.length : Int) - 4 - n < first) : ferr vs first n = 3 := by unfold ferr; rw [if_neg h, if_pos h2]
theorem ferr_8 {vs : List Int} {first n : Nat} (h : 1 ≤ n ∧ n ≤ 64) (h2 : first + 4 + n ≤ vs.length) (j : Nat) (hj : j < 4 + n) (hz : lk vs (first + j) ≠ 0) : ferr vs first n = 8 := by
  unfold ferr
  rw [if_neg (by omega), if_neg (by omega), if_pos ⟨j, by omega, by rw [Int.toNat_natCast]; exact hz⟩]
theorem ferr_0 {vs : List Int} {first n : Nat} (h : 1 ≤ n ∧ n ≤ 64) (h2 : first + 4 + n ≤ vs.length) (hz : ∀ j, j < 4 + n → lk vs (first + j) = 0) : ferr vs first n = 0 := by
  unfold ferr
  rw [if_neg (by omega), if_neg (by omega), if_neg]
  rintro ⟨j, hj, hb⟩
  rw [Int.toNat_natCast] at hb
  exact hb (hz j (by omega))
set_option maxRecDepth 100000 in
set_option maxHeartbeats 2000000 in
theorem fnew_any (B p cb : Nat) (lv : Value) (s : BS) (w : World) (first n : Int) (h : Bank B w p cb lv s.vs s.lg) (hLn : s.vs.length ≤ 4096) :
    Calls Tryz.prog 50 #[.pointer (some ⟨p, 0, none⟩), .int .i64 first, .int .i64 n] w fun e w' => FOut (ferr s.vs first n) w w' 202 (fzero p first.toNat n.toNat) e := by
  by_cases g1 : n < 1
  · have HQ := hid (ferr_2 (vs := s.vs) (first := first) (.inl g1))
    have d0 : decide (n < 1) = true := decide_eq_true g1
    go_enter Tryz.func50, Tryz.ntmps50
    go_wp2_with fail
    go_ret2
    exact ⟨Ch.refl _ _, .inl ⟨by rw [HQ.out]; decide, by rw [HQ.out]; rfl⟩⟩
  · by_cases g2 : 64 < n
    · have HQ := hid (ferr_2 (vs := s.vs) (first := first) (.inr g2))
      have d0 : decide (n < 1) = false := decide_eq_false g1
      have d1 : decide (64 < n) = true := decide_eq_true g2
      go_enter Tryz.func50, Tryz.ntmps50
      go_wp2_with fail
      go_ret2
      exact ⟨Ch.refl _ _, .inl ⟨by rw [HQ.out]; decide, by rw [HQ.out]; rfl⟩⟩
    · obtain ⟨n, rfl⟩ := Int.eq_ofNat_of_zero_le (show 0 ≤ n by omega)
      have d0 : decide ((n : Int) < 1) = false := decide_eq_false g1
      have d1 : decide ((64 : Int) < (n : Int)) = false := decide_eq_false g2
      by_cases g3 : first < 0
      · have HQ := hid (ferr_3 (vs := s.vs) (by omega : ¬ ((n : Int) < 1 ∨ 64 < (n : Int))) (.inl g3))
        have d2 : decide (first < 0) = true := decide_eq_true g3
        go_enter Tryz.func50, Tryz.ntmps50
        go_wp2_with fail
        refine (values_any B p cb lv s w h).mono ?_
        rintro e w1 ⟨gv, rfl, hval, hc1, hgv⟩
        go_wp2_with fail
        go_ret2
        exact ⟨hc1, .inl ⟨by rw [HQ.out]; decide, by rw [HQ.out]; rfl⟩⟩
      · have d2 : decide (first < 0) = false := decide_eq_false g3
        by_cases g4 : (s.vs.length : Int) - 4 - (n : Int) < first
        · have HQ := hid (ferr_3 (vs := s.vs) (by omega : ¬ ((n : Int) < 1 ∨ 64 < (n : Int))) (.inr g4))
          have d3 : decide ((s.vs.length : Int) - 4 - (n : Int) < first) = true := decide_eq_true g4
          go_enter Tryz.func50, Tryz.ntmps50
          go_wp2_with fail
          refine (values_any B p cb lv s w h).mono ?_
          rintro e w1 ⟨gv, rfl, hval, hc1, hgv⟩
          go_wp2_with fail
          go_ret2
          exact ⟨hc1, .inl ⟨by rw [HQ.out]; decide, by rw [HQ.out]; rfl⟩⟩
        · obtain ⟨first, rfl⟩ := Int.eq_ofNat_of_zero_le (show 0 ≤ first by omega)
          have d3 : decide ((s.vs.length : Int) - 4 - (n : Int) < (first : Int)) = false := decide_eq_false g4
          go_enter Tryz.func50, Tryz.ntmps50
          go_wp2_with fail
          refine (values_any B p cb lv s w h).mono ?_
          rintro e w1 ⟨gv, rfl, hval, hc1, hgv⟩
          go_wp2_with fail
          go_loop [10, 40] (fun _ i => ∃ j : Nat, j ≤ 4 + n ∧ i = .int .i64 j ∧ ∀ i, i < j → lk s.vs (first + i) = 0) (fun _ i => 4 + n - (intOf i).toNat)
          case atStart => exact ⟨0, Nat.zero_le _, rfl, fun i hi => absurd hi (Nat.not_lt_zero _)⟩
          case round =>
            obtain ⟨j, hj, rfl, hinv⟩ := hrel
            have Hinv := hid hinv
            clear hinv
            by_cases hlt : j < 4 + n
            · have hcell := (hval.cell (first + j)).trans (u64s_getD s.vs (first + j) (by omega))
              have d5 : decide (j < 4 + n) = true := by simpa using hlt
              obtain ⟨z, hz⟩ : ∃ z, z = lk s.vs (first + j) := ⟨_, rfl⟩
              rw [← hz] at hcell
              have Hz := hid hz
              clear hz
              by_cases hz0 : z = 0
              · subst hz0
                go_wp2_with fail
                go_round
                case rel => exact ⟨j + 1, by omega, by go_num, fun i hi => by
                  by_cases hij : i < j
                  · exact Hinv.out i hij
                  · have : i = j := by omega
                    subst this
                    exact Hz.out.symm⟩
                case measure => simp [intOf]; omega
              · have hzb : (z != 0) = true := by simpa using hz0
                have HQ := hid (ferr_8 (vs := s.vs) (first := first) (n := n) (by omega) (by omega) j hlt (by rw [← Hz.out]; exact hz0))
                go_wp2_with fail
                go_ret2
                exact ⟨hc1, .inl ⟨by rw [HQ.out]; decide, by rw [HQ.out]; rfl⟩⟩
            · have hjn : j = 4 + n := by omega
              have HQ := hid (ferr_0 (vs := s.vs) (first := first) (n := n) (by omega) (by omega) (fun i hi => Hinv.out i (by omega)))
              clear hjn
              go_wp2_with fail
              go_ret2
              exact ⟨hc1.alloc _, .inr ⟨HQ.out, _, hc1.size, rfl, Blk.new w1 _ (fzero p first n)⟩⟩
end Go.Proofs.YtjcdknhejcbpiaaGreat
namespace Go.Proofs.YtjcdknhejcbpiaaGreat
open Go.RowKit
set_option linter.unusedVariables false
set_option linter.unusedSimpArgs false
set_option linter.unusedSectionVars false
/-- append(b, s...) onto a slice of the call's own; whether its block is the old one or new. -/
theorem wpList_app_str {P : Program} (w : World) {ops : Array Oper} {rest : List Oper} {o : Oper} {a : Act} {Q : Exit → Act → World → Prop} (hgd : o.guard = none) (sl x : Operand) (t u : TypeId)
    (ho : o.op = .call { callee := .builtin .append, args := #[sl, x], argTypes := #[t, u] }) (base : Nat) (e : TypeId) (i : TypeInfo) (ht : P.underlying t = some (.slice e)) (hu : P.underlying u = some .string) (hi : P.info? e = some i) (hz : i.zero = some (.int .u8 0))
    (hsize : i.size = 1) (hby : i.bytes = 1) (v : Value) (n : Nat) (xs : List Value) (hs : a.eval sl = v) (hown : w.ownsRow base e 1 v n xs) (s : ByteArray) (hx : a.eval x = .string s)
    (h63 : n + s.size ≤ 1000000000) (hbase : base ≤ w.heap.size)
    (h : ∀ v' w', w'.ownsRow base e 1 v' (n + s.size) (xs ++ Lib.strCells s) → w.grownBy w' v.ownBlock → Fresh w v v' → (v' = .slice none 0 0 ↔ v = .slice none 0 0 ∧ s.size = 0) → wpList P ops Q rest (a.put o.dst v') w') : wpList P ops Q (o :: rest) a w := by
  have hf : ∀ v' w', (Builtin.append_ #[t, u] o.type #[v, .string s]).run P w = .ok v' w' → w'.ownsRow base e 1 v' (n + s.size) (xs ++ Lib.strCells s) → w.grownBy w' v.ownBlock → Fresh w v v' := by
    intro v' w' hr h1 h2
    rcases hown.2 with ⟨rfl, rfl⟩ | ⟨g, cap, cur, rfl, hbg, hg, hnc, hcm, hcs, htake⟩
    · have hx0 : xs = [] := by simpa using hown.1
      subst hx0
      obtain ⟨v2, w2, hr2, h3, _, _⟩ := Lib.run_append_own_string (P := P) w w.heap.size t u o.type e i ht hu hi hz hsize hby (.slice none 0 0) 0 [] (World.ownsRow_nil w _ e 1) s (by unfold maxLen; omega) (by omega) (Nat.le_refl _)
      rw [hr] at hr2
      injection hr2 with e1 e2
      subst e1 e2
      exact .inr fun k hk => (h3.lt k hk).1
    · by_cases hroom : n + s.size ≤ cap
      · have hr2 := Lib.run_append_room_string (P := P) w t u o.type e i ht hu hi hsize g n cap cur hg s hroom (by omega)
        rw [hr] at hr2
        injection hr2 with e1 e2
        subst e1
        exact .inl rfl
      · have hr2 := Lib.run_append_grow_string (P := P) w t u o.type e i (.int .u8 0) ht hu hi hz ⟨g, 0, none⟩ n cap xs (by rw [hsize]; simpa using hown.1) (hown.cells (g := g) rfl) s (by omega) (by omega) (by rw [hby]; exact growslice_fits (by omega) (by omega))
        rw [hr] at hr2
        injection hr2 with e1 e2
        subst e1
        exact .inr fun k hk => by injection hk with hk; exact Nat.le_of_eq hk
  refine wpList_plain hgd fun K hK => ?_
  obtain ⟨v', w', hr, h2, h3, h4⟩ := Lib.run_append_own_string (P := P) w base t u o.type e i ht hu hi hz hsize hby v n xs hown s (by unfold maxLen; omega) (by omega) hbase
  have hF := hf v' w' hr h2 h3
  unfold Oper.wp execOp
  simp only [ho, resolve, invoke, builtin, Sem.run_bind, Sem.run_pure, Result.andThen_ok, List.map_toArray, List.map_cons, List.map_nil, hs, hx, hr]
  exact hK _ _ (h v' w' h2 h3 hF h4)
end Go.Proofs.YtjcdknhejcbpiaaGreat
namespace Go.Proofs.YtjcdknhejcbpiaaGreat
open Go.RowKit
set_option linter.unusedVariables false
set_option linter.unusedSimpArgs false
set_option linter.unusedSectionVars false
theorem cntL_app (a b : List T) : T.cntL (a ++ b) = T.cntL a + T.cntL b := by
  rw [cntL_sum, cntL_sum, cntL_sum, List.map_append, List.sum_append]
theorem group_cnt (ks : List T) : (groupT ks).cnt ≤ T.cntL ks + 1 := by
  match ks with
  | [] => simp [groupT, T.cnt]
  | [t] => simp [groupT, T.cntL]
  | a :: b :: l => simp [groupT, T.cnt]
theorem groups_cnt : ∀ (L : List (List T)), T.cntL (L.map groupT) ≤ T.cntL L.flatten + L.length
  | [] => Nat.le_refl _
  | a :: L => by
    have h1 := group_cnt a
    have h2 := groups_cnt L
    rw [List.map_cons, List.flatten_cons, cntL_app, List.length_cons]
    simp only [T.cntL]
    omega
theorem rowUp_cnt (l : List T) : T.cntL (rowUp l) ≤ T.cntL l + (rowUp l).length := by
  have h := groups_cnt (cutL (sizesN l.length 4) l)
  rw [cutL_flat _ _ (sizes_sum _ _ (by decide))] at h
  unfold rowUp
  rw [List.length_map]
  exact h
theorem leaf_cnt : ∀ (l : List ByteArray), T.cntL (l.map .leaf) = l.length
  | [] => rfl
  | a :: l => by
    rw [List.map_cons, List.length_cons]
    simp only [T.cntL, T.cnt]
    rw [leaf_cnt l]
    omega
end Go.Proofs.YtjcdknhejcbpiaaGreat
