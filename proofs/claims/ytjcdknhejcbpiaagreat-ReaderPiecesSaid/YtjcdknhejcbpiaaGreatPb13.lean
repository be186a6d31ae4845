/- Texts XPlanM, XPlanB for XPcs, by trim.py. -/
import Derived.Test.YtjcdknhejcbpiaaGreatPb12
namespace Go.Proofs.YtjcdknhejcbpiaaGreat
open Go.RowKit
set_option linter.unusedVariables false
set_option linter.unusedSimpArgs false
set_option linter.unusedSectionVars false
/-- The cells of a plan; the slices of its children lie in blocks of S. -/
inductive TreeAt (w : World) (S : Nat → Prop) : T → List Value → Prop where
  | leaf (s : ByteArray) : TreeAt w S (.leaf s) [.int .u64 0, .int .i64 0, .int .i64 0, .int .i64 0, .int .i64 0, .string s, .slice none 0 0]
  | node (h : Nat) (ks : List T) (b off c : Nat) (css : List (List Value)) (hS : S b) (hb : b < w.heap.size) (hne : 0 < ks.length) (hl : css.length = ks.length) (hk : ∀ (i : Nat) (t : T) (cs : List Value), ks[i]? = some t → css[i]? = some cs → TreeAt w S t cs) (hc : ∀ (j : Nat) (v : Value), css.flatten[j]? = some v → w.cell? ⟨b, off + j, none⟩ = some v) :
      TreeAt w S (.node h ks) [.int .u64 0, .int .i64 (Int.ofNat h), .int .i64 0, .int .i64 0, .int .i64 0, .string ⟨#[]⟩, .slice (some ⟨b, off, none⟩) ks.length c]
theorem TreeAt.len {w : World} {S : Nat → Prop} {t : T} {cs : List Value} (h : TreeAt w S t cs) : cs.length = 7 := by cases h <;> rfl
theorem TreeAt.form {w : World} {S : Nat → Prop} {t : T} {cs : List Value} (h : TreeAt w S t cs) : ∃ s a n c, cs = [.int .u64 0, .int .i64 (Int.ofNat t.ht), .int .i64 0, .int .i64 0, .int .i64 0, .string s, .slice a n c] := by
  cases h with
  | leaf s => exact ⟨s, _, _, _, rfl⟩
  | node h ks b off c css => exact ⟨_, _, _, _, rfl⟩
theorem TreeAt.keep {w w' : World} {S S' : Nat → Prop} {fp : Nat → Prop} (c : Ch fp w w') (hS : ∀ k, k < w.heap.size → S k → ¬ fp k) (hS' : ∀ k, k < w.heap.size → S k → S' k) : ∀ {t : T} {cs : List Value}, TreeAt w S t cs → TreeAt w' S' t cs := by
  intro t cs h
  induction h with
  | leaf s => exact .leaf s
  | node h ks b off c0 css hb hlt hne hl hk hc ih =>
    exact .node h ks b off c0 css (hS' b hlt hb) (Nat.lt_of_lt_of_le hlt c.size) hne hl ih (fun j v hj => (c.cell (p := ⟨b, _, none⟩) hlt (hS b hlt hb)).trans (hc j v hj))
/-- A slice of plans that is read. -/
def InTs (w : World) (S : Nat → Prop) (a : Option Addr) (n : Nat) (ts : List T) : Prop :=
  ts.length = n ∧ (0 < n → ∃ b off, ∃ css : List (List Value), a = some ⟨b, off, none⟩ ∧ S b ∧ b < w.heap.size ∧ css.length = ts.length ∧ (∀ (i : Nat) (t : T) (cs : List Value), ts[i]? = some t → css[i]? = some cs → TreeAt w S t cs) ∧ ∀ (j : Nat) (v : Value), css.flatten[j]? = some v → w.cell? ⟨b, off + j, none⟩ = some v)
theorem InTs.keep {w w' : World} {S S' fp : Nat → Prop} {a : Option Addr} {n : Nat} {ts : List T} (h : InTs w S a n ts) (c : Ch fp w w') (hS : ∀ k, k < w.heap.size → S k → ¬ fp k) (hS' : ∀ k, k < w.heap.size → S k → S' k) : InTs w' S' a n ts := by
  refine ⟨h.1, fun h0 => ?_⟩
  obtain ⟨b, off, css, rfl, hb, hlt, hl, hk, hc⟩ := h.2 h0
  exact ⟨b, off, css, rfl, hS' b hlt hb, Nat.lt_of_lt_of_le hlt c.size, hl, fun i t cs hi hi' => (hk i t cs hi hi').keep c hS hS', fun j v hj => (c.cell (p := ⟨b, _, none⟩) hlt (hS b hlt hb)).trans (hc j v hj)⟩
/-- A slice of plans that the call made. -/
def RowT (w : World) (B : Nat) (S : Nat → Prop) (v : Value) (ts : List T) : Prop :=
  ∃ css : List (List Value), css.length = ts.length ∧ (∀ (i : Nat) (t : T) (cs : List Value), ts[i]? = some t → css[i]? = some cs → TreeAt w (fun k => S k ∧ ¬ v.ownBlock = some k) t cs) ∧ w.ownsRow B 183 7 v ts.length css.flatten
theorem flat7 : ∀ (css : List (List Value)), (∀ cs ∈ css, cs.length = 7) → ∀ (i j : Nat) (cs : List Value) (v : Value), css[i]? = some cs → cs[j]? = some v → css.flatten[i * 7 + j]? = some v
  | [], _, i, j, cs, v, h, _ => by simp at h
  | x :: css, hl, 0, j, cs, v, h, hv => by
    injection h with h
    subst h
    have hlt : j < x.length := (List.getElem?_eq_some_iff.1 hv).1
    rw [List.flatten_cons, Nat.zero_mul, Nat.zero_add, List.getElem?_append_left hlt]
    exact hv
  | x :: css, hl, i + 1, j, cs, v, h, hv => by
    have t := flat7 css (fun c hc => hl c (List.mem_cons_of_mem _ hc)) i j cs v (by simpa using h) hv
    have hx := hl x (by simp)
    rw [List.flatten_cons, List.getElem?_append_right (by omega), show (i + 1) * 7 + j - x.length = i * 7 + j by omega]
    exact t
theorem css_len {w : World} {S : Nat → Prop} {ts : List T} {css : List (List Value)} (hl : css.length = ts.length) (h : ∀ (i : Nat) (t : T) (cs : List Value), ts[i]? = some t → css[i]? = some cs → TreeAt w S t cs) : ∀ cs ∈ css, cs.length = 7 := by
  intro cs hcs
  obtain ⟨i, hi⟩ := List.getElem?_of_mem hcs
  have hlt := (List.getElem?_eq_some_iff.1 hi).1
  exact (h i _ cs (List.getElem?_eq_getElem (by omega : i < ts.length)) hi).len
theorem flat_len : ∀ (css : List (List Value)), (∀ cs ∈ css, cs.length = 7) → css.flatten.length = css.length * 7
  | [], _ => rfl
  | x :: css, h => by
    have := flat_len css (fun c hc => h c (List.mem_cons_of_mem _ hc))
    have hx := h x (by simp)
    simp only [List.flatten_cons, List.length_append, List.length_cons]
    omega
/-- One of the plans that are read. -/
theorem InTs.at {w : World} {S : Nat → Prop} {b off n : Nat} {ts : List T} (h : InTs w S (some ⟨b, off, none⟩) n ts) (i : Nat) (t : T) (hi : ts[i]? = some t) : ∃ cs, TreeAt w S t cs ∧ b < w.heap.size ∧ S b ∧ ∀ (j : Nat) (v : Value), cs[j]? = some v → w.cell? ⟨b, off + (i * 7 + j), none⟩ = some v := by
  have hlt := (List.getElem?_eq_some_iff.1 hi).1
  obtain ⟨b', off', css, hv, hb, hlb, hl, hk, hc⟩ := h.2 (by have := h.1; omega)
  injection hv with hv
  injection hv with h1 h2
  subst h1 h2
  have hi' : css[i]? = some (css[i]'(by omega)) := List.getElem?_eq_getElem _
  exact ⟨_, hk i t _ hi hi', hlb, hb, fun j v hj => hc _ v (flat7 css (css_len hl hk) i j _ v hi' hj)⟩
theorem InTs.some {w : World} {S : Nat → Prop} {a : Option Addr} {n : Nat} {ts : List T} (h : InTs w S a n ts) (h0 : 0 < n) : ∃ b off, a = Option.some ⟨b, off, none⟩ := by
  obtain ⟨b, off, css, hv, _⟩ := h.2 h0
  exact ⟨b, off, hv⟩
theorem RowT.nil (w : World) (B : Nat) (S : Nat → Prop) : RowT w B S (.slice none 0 0) [] := ⟨[], rfl, fun i t cs h => by simp at h, World.ownsRow_nil _ _ _ _⟩
theorem RowT.keep {w w' : World} {B : Nat} {S : Nat → Prop} {v : Value} {ts : List T} (h : RowT w B S v ts) {fp : Nat → Prop} (c : Ch fp w w') (hf : ∀ k, k < w.heap.size → ¬ fp k) : RowT w' B S v ts := by
  obtain ⟨css, hl, hk, ho⟩ := h
  exact ⟨css, hl, fun i t cs hi hi' => (hk i t cs hi hi').keep c (fun k hk' _ => hf k hk') (fun _ _ h => h), c.own ho (fun k hk' => hf k (ho.lt k hk').2)⟩
theorem RowT.slice {w : World} {B : Nat} {S : Nat → Prop} {v : Value} {ts : List T} (h : RowT w B S v ts) : ∃ a c, v = .slice a ts.length c ∧ ts.length ≤ c := by
  obtain ⟨css, hl, hk, ho⟩ := h
  obtain ⟨a, c, hv, h1⟩ := own_slice ho
  exact ⟨a, c, hv, h1⟩
/-- What the call made is read. -/
theorem RowT.reads {w : World} {B : Nat} {S : Nat → Prop} {a : Option Addr} {n c : Nat} {ts : List T} (h : RowT w B S (.slice a n c) ts) (S' : Nat → Prop) (hS : ∀ k, k < w.heap.size → S k ∨ B ≤ k → S' k) : InTs w S' a n ts := by
  obtain ⟨css, hl, hk, ho⟩ := h
  obtain ⟨a', c', hv, _⟩ := own_slice ho
  injection hv with h1 h2 h3
  subst h1 h2 h3
  refine ⟨rfl, fun h0 => ?_⟩
  obtain ⟨g, cap, hv, _, _, hgB, hg⟩ := own_form ho h0
  injection hv with h1
  subst h1
  refine ⟨g, 0, css, rfl, hS g hg (.inr hgB), hg, hl, fun i t cs hi hi' => (hk i t cs hi hi').keep (Ch.refl (fun _ => False) w) (fun _ _ _ => id) (fun k hk h => hS k hk (.inl h.1)), fun j v hj => ?_⟩
  have t := ho.cells (g := g) rfl j v hj
  rw [addr_add0] at t
  rw [Nat.zero_add]
  exact t
/-- One more. -/
theorem RowT.snoc {w w1 w' : World} {B : Nat} {S : Nat → Prop} {v v' : Value} {ts : List T} {t : T} {cs : List Value} {css : List (List Value)} (hl : css.length = ts.length) (hk : ∀ (i : Nat) (t : T) (cs : List Value), ts[i]? = some t → css[i]? = some cs → TreeAt w (fun k => S k ∧ ¬ v.ownBlock = some k) t cs) (ht : TreeAt w (fun k => S k ∧ ¬ v.ownBlock = some k) t cs) (c1 : Ch (fun _ => False) w w1) (ho : w'.ownsRow B 183 7 v' (ts.length + 1) (css.flatten ++ cs)) (hg : w1.grownBy w' v.ownBlock) (hf : Fresh w1 v v') : RowT w' B S v' (ts ++ [t]) := by
  have c : Ch (fun k => v.ownBlock = some k) w w' := (c1.mono (fun _ _ e => e.elim)).grown hg (fun k hk _ => hk)
  have hS' : ∀ k, k < w.heap.size → (S k ∧ ¬ v.ownBlock = some k) → (S k ∧ ¬ v'.ownBlock = some k) := fun k hk hn => ⟨hn.1, fun hv => by
    rcases hf with e | e
    · exact hn.2 (e ▸ hv)
    · have := e k hv; have := c1.size; omega⟩
  refine ⟨css ++ [cs], by simp [hl], fun i u cu hi hi' => ?_, ?_⟩
  · by_cases hlt : i < ts.length
    · rw [List.getElem?_append_left hlt] at hi
      rw [List.getElem?_append_left (by omega)] at hi'
      exact (hk i u cu hi hi').keep c (fun _ _ h => h.2) hS'
    · have hlt' := (List.getElem?_eq_some_iff.1 hi).1
      simp at hlt'
      obtain rfl : i = ts.length := by omega
      simp at hi
      rw [← hl] at hi'
      simp at hi'
      subst hi hi'
      exact ht.keep c (fun _ _ h => h.2) hS'
  · rw [List.length_append, List.flatten_append]
    simpa using ho
theorem flat_take : ∀ (css : List (List Value)), (∀ cs ∈ css, cs.length = 7) → ∀ i, (css.drop i).flatten = css.flatten.drop (i * 7)
  | css, _, 0 => by simp
  | [], _, i + 1 => by simp
  | x :: css, h, i + 1 => by
    have hx := h x (by simp)
    rw [List.drop_succ_cons, flat_take css (fun c hc => h c (List.mem_cons_of_mem _ hc)) i, List.flatten_cons, List.drop_append, hx, show (i + 1) * 7 - 7 = i * 7 by omega, show List.drop ((i + 1) * 7) x = [] from List.drop_eq_nil_of_le (by omega), List.nil_append]
theorem InTs.sub {w : World} {S : Nat → Prop} {b off n : Nat} {ts : List T} (h : InTs w S (Option.some ⟨b, off, none⟩) n ts) (i k : Nat) (hk : i + k ≤ n) : InTs w S (Option.some ⟨b, off + i * 7, none⟩) k ((ts.drop i).take k) := by
  have hl := h.1
  refine ⟨by rw [List.length_take, List.length_drop]; omega, fun h0 => ?_⟩
  obtain ⟨b', off', css, hv, hb, hlt, hcl, hk', hc⟩ := h.2 (by omega)
  injection hv with hv
  injection hv with h1 h2
  subst h1 h2
  have get : ∀ {α : Type} (l : List α) (j : Nat) (t : α), ((l.drop i).take k)[j]? = Option.some t → l[i + j]? = Option.some t := fun l j t hj => by
    rw [List.getElem?_take] at hj
    split at hj
    · rwa [List.getElem?_drop] at hj
    · cases hj
  refine ⟨b, off + i * 7, (css.drop i).take k, rfl, hb, hlt, by rw [List.length_take, List.length_take, List.length_drop, List.length_drop, hcl], fun j t cs hj hj' => hk' (i + j) t cs (get _ j t hj) (get _ j cs hj'), fun j v hj => ?_⟩
  have h7 := css_len hcl hk'
  have e : ((css.drop i).take k).flatten ++ ((css.drop i).drop k).flatten = (css.drop i).flatten := by rw [← List.flatten_append, List.take_append_drop]
  have hj2 : (css.drop i).flatten[j]? = Option.some v := by
    rw [← e, List.getElem?_append_left (List.getElem?_eq_some_iff.1 hj).1]
    exact hj
  rw [flat_take css h7 i, List.getElem?_drop] at hj2
  rw [Nat.add_assoc]
  exact hc (i * 7 + j) v hj2
theorem infoTree : (Tryz.prog.info? 183).map (fun i => (i.zero, i.size, i.bytes)) = some (some (Value.agg #[.int .u64 0, .int .i64 0, .int .i64 0, .int .i64 0, .int .i64 0, .string ByteArray.empty, .slice none 0 0]), 7, 80) := by kernel_rfl
theorem TreeAt.one {w : World} {S : Nat → Prop} {t : T} {cs : List Value} (h : TreeAt w S t cs) : ∀ u ∈ cs, u.oneCell' = true := by
  obtain ⟨s, a, n, c, rfl⟩ := h.form
  intro u hu
  simp at hu
  rcases hu with rfl | rfl | rfl | rfl | rfl | rfl | rfl | rfl <;> rfl
/-- A plan as a value. -/
def GrpOut (S : Nat → Prop) (t : T) (w : World) (e : Ending) (w' : World) : Prop := ∃ cs, e = .returned (.agg cs.toArray) ∧ TreeAt w' (fun k => S k ∨ w.heap.size ≤ k) t cs ∧ Ch (fun _ => False) w w'
set_option maxHeartbeats 1000000 in
theorem group_one (S : Nat → Prop) (b off c : Nat) (t : T) (w : World) (h : InTs w S (some ⟨b, off, none⟩) 1 [t]) :
    Calls Tryz.prog 118 #[.slice (some ⟨b, off, none⟩) 1 c] w (GrpOut S t w) := by
  obtain ⟨cs, ht, hlt, hb, hc⟩ := h.at 0 t rfl
  obtain ⟨s, a, n, c', rfl⟩ := ht.form
  have c0 : w.cell? ⟨b, off, none⟩ = some (.int .u64 0) := hc 0 _ rfl
  have c1 : w.cell? ⟨b, off + 1, none⟩ = some (.int .i64 (Int.ofNat t.ht)) := hc 1 _ rfl
  have c2 : w.cell? ⟨b, off + 2, none⟩ = some (.int .i64 0) := hc 2 _ rfl
  have c3 : w.cell? ⟨b, off + 3, none⟩ = some (.int .i64 0) := hc 3 _ rfl
  have c4 : w.cell? ⟨b, off + 4, none⟩ = some (.int .i64 0) := hc 4 _ rfl
  have c5 : w.cell? ⟨b, off + 5, none⟩ = some (.string s) := hc 5 _ rfl
  have c6 : w.cell? ⟨b, off + 6, none⟩ = some (.slice a n c') := hc 6 _ rfl
  have HT := hid ht
  clear ht hc h
  have nb : b ≠ w.heap.size := by omega
  have nb' : w.heap.size ≠ b := by omega
  go_enter Tryz.func118, Tryz.ntmps118
  go_wp2_with fail
  refine bodyPost_ret (v := .agg #[.int .u64 0, .int .i64 (Int.ofNat t.ht), .int .i64 0, .int .i64 0, .int .i64 0, .string s, .slice a n c']) (by simp [results, Tryz.results118, go_sem]) rfl ⟨_, rfl, HT.out.keep (fp := fun _ => False) ((Ch.refl (fun _ => False) w).alloc _) (fun _ _ _ => id) (fun _ _ h => .inl h), (Ch.refl (fun _ => False) w).alloc _⟩
set_option maxHeartbeats 1000000 in
theorem group_many (S : Nat → Prop) (b off n c : Nat) (ts : List T) (w : World) (h : InTs w S (some ⟨b, off, none⟩) n ts) (hn : 2 ≤ n) (hn' : n ≤ 100000) (hh : (ts.headD (.leaf ByteArray.empty)).ht ≤ 100000) :
    Calls Tryz.prog 118 #[.slice (some ⟨b, off, none⟩) n c] w (GrpOut S (.node ((ts.headD (.leaf ByteArray.empty)).ht + 1) ts) w) := by
  obtain ⟨i0, hi, hz0, hz1, hz2⟩ := info_parts infoTree
  have hl := h.1
  obtain ⟨t0, ht0⟩ : ∃ t, ts[0]? = some t := ⟨_, List.getElem?_eq_getElem (by omega)⟩
  have hhd : ts.headD (.leaf ByteArray.empty) = t0 := by
    match ts, ht0 with
    | x :: _, e => simpa using e
  rw [hhd] at hh ⊢
  obtain ⟨cs, ht, hlt, hb, hc⟩ := h.at 0 t0 ht0
  obtain ⟨s, a, m, c', rfl⟩ := ht.form
  have c1 : w.cell? ⟨b, off + 1, none⟩ = some (.int .i64 (Int.ofNat t0.ht)) := hc 1 _ rfl
  have HH := hid h
  have x1 : ((n : Int) == 0) = false := by rw [beq_eq_false_iff_ne]; omega
  have x2 : ((n : Int) == 1) = false := by rw [beq_eq_false_iff_ne]; omega
  have HL := hid hl
  have HN := hid hn
  clear hc ht h hhd ht0 hl
  obtain ⟨q, hq⟩ : ∃ q, q = t0.ht := ⟨_, rfl⟩
  rw [← hq] at hh c1 ⊢
  have HQ := hid hq
  clear hq
  go_enter Tryz.func118, Tryz.ntmps118
  go_wp2_with fail
  obtain ⟨b', off', css, hv, _, _, hcl, hk, hcell⟩ := HH.out.2 (by omega)
  injection hv with hv
  injection hv with h1 h2
  subst h1 h2
  have hcl' : css.flatten.length = n * 7 := by rw [flat_len css (css_len hcl hk), hcl, HL.out]
  have H7 := hid (css_len hcl hk)
  have HK := hid hk
  have HC := hid hcell
  have HCL := hid hcl
  have hone : ∀ u ∈ css.flatten, u.oneCell' = true := by
    intro u hu
    obtain ⟨x, hx, hu⟩ := List.mem_flatten.1 hu
    obtain ⟨i, hi⟩ := List.getElem?_of_mem hx
    have hlt := (List.getElem?_eq_some_iff.1 hi).1
    exact (hk i _ x (List.getElem?_eq_getElem (by omega : i < ts.length)) hi).one u hu
  have HONE := hid hone
  clear hk hcell hcl hone
  have hS1 : Mix.Has (fun k => k = b) b := rfl
  refine Mix.wp_region_mix (fun k => k = b) (fun i => ([1, 1, 1, 4, 1, 3, 1, 3, 0, 2] : List Nat).getD i 0) [0, 1, 2, 3, 4, 6, 5, 7, 8, 9] (by kernel_rfl) (by kernel_rfl) ?_
  iterate 6 (first | (refine Mix.mix_p (by simp only [List.getElem?_toArray, List.getElem?_cons_zero, List.getElem?_cons_succ]; exact rfl) rfl rfl ?_; go_big_quiet_step (fail); refine wpQuiet_nil ?_) | (refine Mix.mix_s (by simp only [List.getElem?_toArray, List.getElem?_cons_zero, List.getElem?_cons_succ]; exact rfl) rfl rfl ?_; go_big_quiet_step (fail); refine wpQuiet_nil ?_))
  refine Mix.mix_a (by simp only [List.getElem?_toArray, List.getElem?_cons_zero, List.getElem?_cons_succ]; exact rfl) rfl fun W1 hW1 => ?_
  obtain ⟨n1, rfl⟩ := hW1
  go_wp2_with fail
  refine ⟨fun j hj => ?_, ?_⟩
  · subst hj
    rw [heap_alloc_old _ _ (by show j < (w.alloc _).heap.size; simp; omega), show ((w.alloc (.cells #[.int .u64 0, .int .i64 0, .int .i64 0, .int .i64 0, .int .i64 0, .string ⟨#[]⟩, .slice none 0 0] 183)).drewN n1).heap[j]? = (w.alloc (.cells #[.int .u64 0, .int .i64 0, .int .i64 0, .int .i64 0, .int .i64 0, .string ⟨#[]⟩, .slice none 0 0] 183)).heap[j]? from rfl]
  refine Mix.mix_world fun V hV => ?_
  have CV := hid (show Ch (fun _ => False) w V from by rw [hV]; exact (((Ch.refl (fun _ => False) w).alloc _).drewN n1).alloc _)
  have BV := hid (show Blk V w.heap.size 183 #[.int .u64 0, .int .i64 0, .int .i64 0, .int .i64 0, .int .i64 0, .string ⟨#[]⟩, .slice none 0 0] from by rw [hV]; exact ((Blk.new w _ _).drewN n1).alloc _)
  have OV := hid (show V.ownsRow (w.heap.size + 1) 183 7 (.slice (some ⟨w.heap.size + 1, 0, none⟩) 0 0) 0 [] from by
    rw [hV]
    have t := World.ownsRow_made (e := 183) (size := 7) (base := w.heap.size + 1) ((w.alloc (.cells #[.int .u64 0, .int .i64 0, .int .i64 0, .int .i64 0, .int .i64 0, .string ⟨#[]⟩, .slice none 0 0] 183)).drewN n1) #[] 0 (by simp) (Nat.zero_le _) rfl
    simpa using t)
  have hsz := CV.out.size
  have hVz : w.heap.size + 1 ≤ V.heap.size := by have := (OV.out.lt (w.heap.size + 1) rfl).2; omega
  clear hV
  refine Mix.mix_a (by simp only [List.getElem?_toArray, List.getElem?_cons_zero, List.getElem?_cons_succ]; exact rfl) rfl fun W2 hW2 => ?_
  obtain ⟨n2, rfl⟩ := hW2
  have CV2 := hid ((Ch.refl (fun _ => False) V).drewN n2)
  refine wpList_app _ rfl _ _ 181 rfl (w.heap.size + 1) 183 i0 _ 7 80 Tryz.underlying181 hi hz0 hz1 hz2 rfl (by decide) (.slice (some ⟨w.heap.size + 1, 0, none⟩) 0 0) 0 [] rfl (CV2.out.own OV.out (fun _ _ => id)) ⟨b, off, none⟩ n c css.flatten rfl hcl' ?c1 HONE.out (by omega) ?c3 ?c4 ?c5 ?_
  case c1 =>
    intro j u hu
    rw [addr_add]
    exact (CV.out.cell (p := ⟨b, _, none⟩) hlt id).trans (HC.out j u hu)
  case c3 => unfold maxLen; omega
  case c4 => omega
  case c5 => exact hVz
  intro v' w' hown' hgrow hfresh
  rw [Nat.zero_add, List.nil_append] at hown'
  obtain ⟨g, cap, rfl, _, _, hgB, hgl⟩ := own_form hown' (by omega)
  have CR := (show Ch (fun k => k = w.heap.size + 1) V w' from (CV2.out.mono (fun _ _ e => e.elim)).grown hgrow (fun k hk _ => by have e : some (w.heap.size + 1) = some k := hk; exact (Option.some.inj e).symm))
  have C3 := hid (show Ch (fun _ => False) w w' from CV.out.trans CR (fun i hi e => absurd hi (by omega)))
  have B3 := hid (show Blk w' w.heap.size 183 #[.int .u64 0, .int .i64 0, .int .i64 0, .int .i64 0, .int .i64 0, .string ⟨#[]⟩, .slice none 0 0] from (BV.out.drewN n2).grown hgrow (fun e => by have e' : some (w.heap.size + 1) = some w.heap.size := e; have := Option.some.inj e'; omega))
  have KB := hid (CR.block b (by omega) (by omega))
  have OW := hid hown'
  clear hown' hgrow hfresh CR
  have gne : g ≠ w.heap.size := by omega
  have r0 : w'.cell? ⟨w.heap.size, 0, none⟩ = some (.int .u64 0) := B3.out.cell 0
  have r1 : w'.cell? ⟨w.heap.size, 1, none⟩ = some (.int .i64 0) := B3.out.cell 1
  have r2 : w'.cell? ⟨w.heap.size, 2, none⟩ = some (.int .i64 0) := B3.out.cell 2
  have r3 : w'.cell? ⟨w.heap.size, 3, none⟩ = some (.int .i64 0) := B3.out.cell 3
  have r4 : w'.cell? ⟨w.heap.size, 4, none⟩ = some (.int .i64 0) := B3.out.cell 4
  have r5 : w'.cell? ⟨w.heap.size, 5, none⟩ = some (.string ⟨#[]⟩) := B3.out.cell 5
  have r6 : w'.cell? ⟨w.heap.size, 6, none⟩ = some (.slice none 0 0) := B3.out.cell 6
  have s0 := B3.out.free 0
  have s1 := B3.out.free 1
  have s2 := B3.out.free 2
  have s3 := B3.out.free 3
  have s4 := B3.out.free 4
  have s5 := B3.out.free 5
  have s6 := B3.out.free 6
  go_wp2_with fail
  refine ⟨fun j hj => by rw [show j = b from hj]; exact KB.out, ?_⟩
  (refine Mix.mix_q (by simp only [List.getElem?_toArray, List.getElem?_cons_zero, List.getElem?_cons_succ]; exact rfl) rfl ?_; go_big_quiet_step (fail); refine wpQuiet_nil ?_)
  refine Mix.mix_e (by simp only [List.getElem?_toArray, List.getElem?_cons_zero, List.getElem?_cons_succ]; exact rfl) rfl fun W4 hW4 => ?_
  obtain ⟨n3, rfl⟩ := hW4
  go_wp2_with fail
  intro n4
  go_wp2_with fail
  refine at_world fun W6 hW6 => ?_
  have C6 := hid (show Ch (fun k => k = w.heap.size) w' W6 from by rw [hW6]; exact (((((((((Ch.refl (fun k => k = w.heap.size) w').drewN n3).set (fun _ => rfl) _).set (fun _ => rfl) _).set (fun _ => rfl) _).set (fun _ => rfl) _).set (fun _ => rfl) _).set (fun _ => rfl) _).set (fun _ => rfl) _).drewN n4)
  have B6 := hid (show Blk W6 w.heap.size 183 #[.int .u64 0, .int .i64 ((q : Int) + 1), .int .i64 0, .int .i64 0, .int .i64 0, .string ⟨#[]⟩, .slice (some ⟨g, 0, none⟩) n cap] from by rw [hW6]; exact ((((((((B3.out.drewN n3).put 0 _).put 1 _).put 2 _).put 3 _).put 4 _).put 5 _).put 6 _).drewN n4)
  clear hW6 r0 r1 r2 r3 r4 r5 r6 s0 s1 s2 s3 s4 s5 s6
  have t0 : W6.cell? ⟨w.heap.size, 0, none⟩ = some (.int .u64 0) := B6.out.cell 0
  have t1 : W6.cell? ⟨w.heap.size, 1, none⟩ = some (.int .i64 ((q : Int) + 1)) := B6.out.cell 1
  have t2 : W6.cell? ⟨w.heap.size, 2, none⟩ = some (.int .i64 0) := B6.out.cell 2
  have t3 : W6.cell? ⟨w.heap.size, 3, none⟩ = some (.int .i64 0) := B6.out.cell 3
  have t4 : W6.cell? ⟨w.heap.size, 4, none⟩ = some (.int .i64 0) := B6.out.cell 4
  have t5 : W6.cell? ⟨w.heap.size, 5, none⟩ = some (.string ⟨#[]⟩) := B6.out.cell 5
  have t6 : W6.cell? ⟨w.heap.size, 6, none⟩ = some (.slice (some ⟨g, 0, none⟩) n cap) := B6.out.cell 6
  refine bodyPost_ret (v := .agg #[.int .u64 0, .int .i64 ((q : Int) + 1), .int .i64 0, .int .i64 0, .int .i64 0, .string ⟨#[]⟩, .slice (some ⟨g, 0, none⟩) n cap]) (by simp [results, Tryz.results118, go_sem, t0, t1, t2, t3, t4, t5, t6]) rfl ⟨_, rfl, ?_, C3.out.trans C6.out (fun i hi e => absurd hi (by omega))⟩
  have hck : Ch (fun _ => False) w W6 := C3.out.trans C6.out (fun i hi e => absurd hi (by omega))
  have t := TreeAt.node (w := W6) (S := fun k => S k ∨ w.heap.size ≤ k) (q + 1) ts g 0 cap css (.inr (by omega)) (Nat.lt_of_lt_of_le hgl C6.out.size) (by have := HL.out; omega) HCL.out (fun i u cs hi hi' => (HK.out i u cs hi hi').keep hck (fun _ _ _ => id) (fun _ _ h => .inl h)) (fun j v hj => by
    have t := OW.out.cells (g := g) rfl j v hj
    rw [addr_add0] at t
    rw [Nat.zero_add]
    exact (C6.out.cell (p := ⟨g, _, none⟩) hgl gne).trans t)
  rw [HL.out] at t
  exact t
end Go.Proofs.YtjcdknhejcbpiaaGreat
namespace Go.Proofs.YtjcdknhejcbpiaaGreat
open Go.RowKit
set_option linter.unusedVariables false
set_option linter.unusedSimpArgs false
set_option linter.unusedSectionVars false
def lenV : Value → Nat
  | .slice _ n _ => n
  | _ => 0
def zTree : List Value := [.int .u64 0, .int .i64 0, .int .i64 0, .int .i64 0, .int .i64 0, .string ⟨#[]⟩, .slice none 0 0]
/-- What Build returns. -/
def BuildOut (s : ByteArray) (w : World) (e : Ending) (w' : World) : Prop := ∃ cs, e = .returned (.tuple #[.agg cs.toArray, .int .i64 0]) ∧ Ch (fun _ => False) w w' ∧ ((s.size = 0 ∧ cs = zTree) ∨ ∃ t, buildT s = [t] ∧ TreeAt w' (fun k => w.heap.size ≤ k) t cs)
theorem base_get {s : ByteArray} {k : Nat} {x : ByteArray} (h : (chunksS s)[k]? = some x) : (baseT s)[k]? = some (.leaf x) := by simp [baseT, h]
theorem tcut (l : List T) (k : Nat) (x : List T) (h : (cutL (sizesN l.length 4) l)[k]? = some x) : (rowUp l)[k]? = some (groupT x) := by simp [rowUp, h]
theorem sum_take_succ {l : List Nat} {k z : Nat} (h : l[k]? = some z) : (l.take (k + 1)).sum = (l.take k).sum + z := by
  have hk := List.getElem?_eq_some_iff.1 h
  rw [List.take_succ_eq_append_getElem hk.1, List.sum_append, hk.2]
  simp
theorem sum_take_le (l : List Nat) (k : Nat) : (l.take k).sum ≤ l.sum := by
  have : ((l.take k).sum + (l.drop k).sum) = l.sum := by rw [← List.sum_append, List.take_append_drop]
  omega
theorem TreeAt.form1 {w : World} {S : Nat → Prop} {h : Nat} {ks : List T} {cs : List Value} (ht : TreeAt w S (.node (h + 1) ks) cs) : ∃ s a n c, cs = [.int .u64 0, .int .i64 ((h : Int) + 1), .int .i64 0, .int .i64 0, .int .i64 0, .string s, .slice a n c] := by
  obtain ⟨s, a, n, c, h⟩ := ht.form
  exact ⟨s, a, n, c, h⟩
set_option maxHeartbeats 1000000 in
theorem group_zero (a : Option Addr) (c : Nat) (w : World) : Calls Tryz.prog 118 #[.slice a 0 c] w fun e w' => e = .returned (.agg zTree.toArray) ∧ Ch (fun _ => False) w w' := by
  go_enter Tryz.func118, Tryz.ntmps118
  go_wp2_with fail
  refine bodyPost_ret (v := .agg #[.int .u64 0, .int .i64 0, .int .i64 0, .int .i64 0, .int .i64 0, .string ⟨#[]⟩, .slice none 0 0]) (by simp [results, Tryz.results118, go_sem]) rfl ⟨rfl, (Ch.refl (fun _ => False) w).alloc _⟩
set_option maxHeartbeats 4000000 in
set_option maxRecDepth 100000 in
theorem build_any (s : ByteArray) (hs : s.size ≤ 65536) (w : World) : Calls Tryz.prog 80 #[.string s] w (BuildOut s w) := by
  obtain ⟨i0, hi, hz0, hz1, hz2⟩ := info_parts infoTree
  have x1 : decide (65536 < s.size) = false := decide_eq_false (by omega)
  have x2 : decide ((65536 : Int) < (s.size : Int)) = false := decide_eq_false (by omega)
  have hbl : (baseT s).length ≤ 5000 := by
    rw [base_len]
    have := (grp_le (n := s.size) (m := 16) (by decide)).2
    omega
  have hcl : (chunksS s).length = (baseT s).length := by simp [baseT]
  go_enter Tryz.func80, Tryz.ntmps80
  go_wp2_with fail
  refine calls_world fun W1 hW1 => ?_
  have C1 := hid (show Ch (fun _ => False) w W1 from by rw [hW1]; exact (Ch.refl _ w).alloc _)
  have B1 := hid (show Blk W1 w.heap.size 183 #[.int .u64 0, .int .i64 0, .int .i64 0, .int .i64 0, .int .i64 0, .string ⟨#[]⟩, .slice none 0 0] from by rw [hW1]; exact Blk.new w _ _)
  clear hW1
  refine (chunks_any s hs W1).mono ?_
  rintro e w2 ⟨v2, rfl, ho2, hc2⟩
  rw [hcl] at ho2
  obtain ⟨A2, cap2, rfl, _⟩ := own_slice ho2
  have C2 := hid (C1.out.trans hc2 (fun _ _ h => h))
  have B2 := hid (hc2.blk B1.out id)
  have O2 := hid ho2
  have hlt2 := B2.out.lt
  clear ho2 hc2
  obtain ⟨L, hL⟩ : ∃ L, L = (baseT s).length := ⟨_, rfl⟩
  rw [← hL] at hbl hcl O2
  rw [← hL]
  have HL := hid hL
  have HCL := hid hcl
  clear hL hcl
  go_wp2_with fail
  go_loopw [4, 19] (fun v i W => ∃ k : Nat, k ≤ L ∧ i = .int .i64 (k : Int) ∧ RowT W w2.heap.size (fun k => w.heap.size < k) v ((baseT s).take k) ∧ Ch (fun _ => False) w2 W) (fun _ i _ => L - (intOf i).toNat)
  case atStart => exact ⟨0, Nat.zero_le _, rfl, RowT.nil _ _ _, Ch.refl _ _⟩
  case round =>
    obtain ⟨k, hk, rfl, hR, hch⟩ := hrel
    by_cases hlt : k < L
    · obtain ⟨g, cg, hv, _, _, hg1, hgl⟩ := own_form O2.out (by omega)
      injection hv with hA _ hcg
      subst hA hcg
      obtain ⟨x, hx⟩ : ∃ x, (chunksS s)[k]? = some x := ⟨_, List.getElem?_eq_getElem (by rw [HCL.out]; exact hlt)⟩
      have c0 : wr.cell? ⟨g, k, none⟩ = some (.string x) := by
        have t := O2.out.cells (g := g) rfl k _ (by rw [strsV, List.getElem?_map, hx]; rfl)
        rw [addr_add0] at t
        exact (hch.cell (p := ⟨g, _, none⟩) hgl id).trans t
      have htk : (baseT s).take (k + 1) = (baseT s).take k ++ [.leaf x] := by
        have hb := base_get hx
        have hkl := List.getElem?_eq_some_iff.1 hb
        rw [List.take_succ_eq_append_getElem hkl.1, hkl.2]
      have HT := hid htk
      clear htk hx
      obtain ⟨css, hcss, hks, hown⟩ := hR
      have hkl : ((baseT s).take k).length = k := by rw [List.length_take, ← HL.out]; omega
      have HK := hid hks
      have HC := hid hcss
      have hown0 := hown
      rw [hkl] at hown0
      obtain ⟨A0, cap0, hv0, _⟩ := own_slice hown0
      subst hv0
      have HKL := hid hkl
      clear hks hcss hown hkl
      have y1 : decide (k < L) = true := decide_eq_true hlt
      have y2 : decide ((k : Int) < (L : Int)) = true := decide_eq_true (by omega)
      go_wp2_with (at_builtin; refine wpList_app _ rfl (.tmp 23) (.tmp 26) 181 rfl w2.heap.size 183 i0 _ 7 80 Tryz.underlying181 hi hz0 hz1 hz2 rfl (by decide) _ _ _ rfl (hown0.alloc _) ⟨wr.heap.size, 0, none⟩ 1 1 [.int .u64 0, .int .i64 0, .int .i64 0, .int .i64 0, .int .i64 0, .string x, .slice none 0 0] rfl rfl ?c1 ?c2 (by decide) ?c3 ?c4 ?c5 ?c6)
      case c2 => exact ⟨rfl, rfl, rfl, rfl⟩
      case c3 => unfold maxLen; omega
      case c4 => omega
      case c5 => exact Nat.le_trans hch.size (by simp)
      case c6 =>
        intro v' w' hown' hgrow hfresh
        have hch' : Ch (fun _ => False) w2 w' := (hch.alloc _).grown hgrow (fun g hg hl => by
          have := (hown0.lt g hg).1
          omega)
        have hR' : RowT w' w2.heap.size (fun k => w.heap.size < k) v' ((baseT s).take k ++ [.leaf x]) := RowT.snoc HC.out HK.out (.leaf x) ((Ch.refl (fun _ => False) wr).alloc _) (by rw [HKL.out]; exact hown') hgrow hfresh
        go_wp2_with fail
        go_roundw
        case rel => exact ⟨k + 1, by omega, by go_num, by rw [HT.out]; exact hR', hch'⟩
        case measure => simp [intOf]; omega
    · obtain rfl : L = k := by omega
      have y1 : decide (L < L) = false := decide_eq_false (by omega)
      rw [List.take_of_length_le (by rw [← HL.out]; exact Nat.le_refl _)] at hR
      obtain ⟨ra, rc, hrv, hrc⟩ := hR.slice
      subst hrv
      rw [← HL.out] at hR hrc
      rw [← HL.out]
      have HR := hid hR
      have HCH := hid hch
      clear hR hch
      go_wp2_with fail
      go_loopw [4] (fun v W => ∃ (ts : List T) (h : Nat) (a : Option Addr) (c : Nat), v = .slice a ts.length c ∧ ts.length ≤ c ∧ InTs W (fun k => w.heap.size < k) a ts.length ts ∧ topT ts = buildT s ∧ (1 < ts.length → fitRow h ts) ∧ ts.length + h ≤ 5000 ∧ Blk W w.heap.size 183 #[.int .u64 0, .int .i64 0, .int .i64 0, .int .i64 0, .int .i64 0, .string ⟨#[]⟩, .slice none 0 0] ∧ Ch (fun _ => False) w W) (fun v _ => lenV v)
      case atStart => exact ⟨baseT s, 0, ra, rc, by rw [← HL.out], by rw [← HL.out]; exact hrc, by rw [← HL.out]; exact HR.out.reads _ (fun k hk h => by rcases h with h | h <;> omega), rfl, base_fit, by rw [← HL.out]; exact hbl, HCH.out.blk B2.out id, C2.out.trans HCH.out (fun _ _ h => h)⟩
      case round =>
        clear HR HCH B2 C2 O2
        obtain ⟨ts, h, a, c, rfl, hcap, hI, htop, hfit, hlen, hB, hC⟩ := hrel
        by_cases hl : 1 < ts.length
        · obtain ⟨b, off, rfl⟩ := hI.some (by omega)
          have z1 : decide (1 < ts.length) = true := decide_eq_true hl
          have z2 : decide ((1 : Int) < (ts.length : Int)) = true := decide_eq_true (by omega)
          have HI := hid hI
          have HTOP := hid htop
          have HFIT := hid (hfit hl)
          have HB := hid hB
          have HC := hid hC
          clear hI htop hfit hB hC
          go_wp2_with fail
          refine (even_any ts.length 4 (by decide) (by decide) (by omega) _).mono ?_
          rintro e w3 ⟨v3, rfl, ho3, hc3⟩
          obtain ⟨A3, cap3, rfl, _⟩ := own_slice ho3
          have C3 := hid (HC.out.trans hc3 (fun _ _ h => h))
          have B3 := hid (hc3.blk HB.out id)
          have O3 := hid ho3
          have I3 := hid (show InTs w3 (fun k => w.heap.size < k ∧ k < w3.heap.size) (some ⟨b, off, none⟩) ts.length ts from HI.out.keep hc3 (fun _ _ _ => id) (fun k hk h => ⟨h, Nat.lt_of_lt_of_le hk hc3.size⟩))
          have B3lt := B3.out.lt
          have hsum := sizes_sum ts.length 4 (by decide)
          have hup := rowUp_len ts
          have hult := rowUp_lt hl
          have hparts := hid (rowUp_parts hl)
          clear ho3 hc3 HI HB HC
          obtain ⟨ns, hns⟩ : ∃ ns, ns = sizesN ts.length 4 := ⟨_, rfl⟩
          have hnl : ns.length = (rowUp ts).length := by rw [hns, sizes_len, hup]
          rw [← hns] at hsum O3
          rw [← hns]
          have HNS := hid hns
          have HNL := hid hnl
          have HSUM := hid hsum
          clear hns hup
          have hnl2 : ns.length ≤ 5000 := by omega
          clear hnl hsum
          go_wp2_with fail
          go_loopw [9, 4, 44] (fun nx v i W => ∃ (k cc : Nat), k ≤ ns.length ∧ i = .int .i64 (k : Int) ∧ RowT W w3.heap.size (fun k => w.heap.size < k) nx ((rowUp ts).take k) ∧ (k < ns.length → v = .slice (some ⟨b, off + (ns.take k).sum * 7, none⟩) (ts.length - (ns.take k).sum) cc ∧ ts.length - (ns.take k).sum ≤ cc) ∧ Ch (fun _ => False) w3 W) (fun _ _ i _ => ns.length - (intOf i).toNat)
          case atStart => exact ⟨0, c, Nat.zero_le _, rfl, RowT.nil _ _ _, fun _ => ⟨by simp, by simpa using hcap⟩, Ch.refl _ _⟩
          case round =>
            obtain ⟨k, cc, hk, rfl, hR, hv, hch⟩ := hrel
            by_cases hlt : k < ns.length
            · obtain ⟨rfl, hcc⟩ := hv hlt
              obtain ⟨g, cg, hv3, _, _, hg1, hgl⟩ := own_form O3.out (by omega)
              injection hv3 with hA _ hcg
              subst hA hcg
              obtain ⟨z, hz⟩ : ∃ z, ns[k]? = some z := ⟨_, List.getElem?_eq_getElem hlt⟩
              have c0 : wr.cell? ⟨g, k, none⟩ = some (.int .i64 (z : Int)) := by
                have t := O3.out.cells (g := g) rfl k _ (by rw [intsV, List.getElem?_map, hz]; rfl)
                rw [addr_add0] at t
                exact (hch.cell (p := ⟨g, _, none⟩) hgl id).trans t
              have hp1 := sum_take_succ hz
              have hp2 := sum_take_le ns (k + 1)
              obtain ⟨p, hp⟩ : ∃ p, p = (ns.take k).sum := ⟨_, rfl⟩
              rw [← hp] at hp1 hcc
              rw [← hp]
              have hpz : p + z ≤ ts.length := by have := HSUM.out; omega
              have hcut := cutL_get ns ts k z hz
              rw [← hp, HNS.out] at hcut
              have hpt := hparts.out _ (List.mem_of_getElem? hcut)
              have htl : ((ts.drop p).take z).length = z := by rw [List.length_take, List.length_drop]; omega
              have hgk := tcut ts k _ hcut
              rw [group_node hpt.1] at hgk
              rw [htl] at hpt
              have hht : (((ts.drop p).take z).headD (.leaf ByteArray.empty)).ht = h := by
                match hm : (ts.drop p).take z, htl with
                | [], e => simp at e; omega
                | x :: _, _ => exact T.fit_ht (HFIT.out x (hpt.2.2 x (by rw [hm]; simp)))
              rw [hht] at hgk
              have htk : (rowUp ts).take (k + 1) = (rowUp ts).take k ++ [.node (h + 1) ((ts.drop p).take z)] := by
                have hkl := List.getElem?_eq_some_iff.1 hgk
                rw [List.take_succ_eq_append_getElem hkl.1, hkl.2]
              have HTK := hid htk
              have HHT := hid hht
              have hza : 2 ≤ z := hpt.1
              have hnext := hid (show k + 1 < ns.length → p + z < ts.length from fun hk1 => by
                obtain ⟨z', hz'⟩ : ∃ z', ns[k + 1]? = some z' := ⟨_, List.getElem?_eq_getElem hk1⟩
                have e1 := sum_take_succ hz'
                have e2 := sum_take_le ns (k + 1 + 1)
                have e3 : 0 < z' := by
                  rw [HNS.out] at hz'
                  have hk2 := (List.getElem?_eq_some_iff.1 hz').1
                  rw [sizes_len] at hk2
                  rw [sizes_get _ _ _ hk2] at hz'
                  injection hz' with hz'
                  rw [← hz']
                  exact sz_pos (by omega) (by decide)
                have := HSUM.out
                omega)
              have hzb : z ≤ 4 := hpt.2.1
              have HR := hid hR
              have HCH := hid hch
              have HP := hid hp
              have HP1 := hid hp1
              have y1 : decide (k < ns.length) = true := decide_eq_true hlt
              have y2 : decide ((k : Int) < (ns.length : Int)) = true := decide_eq_true (by omega)
              have y3 : z ≤ cc := by omega
              clear hv hcut hpt hgk htk hht htl hR hch hp hp1 hz
              go_wp2_with fail
              refine (group_many (fun k => w.heap.size < k ∧ k < w3.heap.size) b (off + p * 7) z cc ((ts.drop p).take z) wr ((I3.out.keep HCH.out (fun _ _ _ => id) (fun _ _ h => h)).sub p z hpz) hza (by omega) (by rw [HHT.out]; omega)).mono ?_
              rintro e w5 ⟨cs, rfl, ht, hc5⟩
              rw [HHT.out] at ht
              obtain ⟨s5, a5, n5, c5, rfl⟩ := ht.form1
              have HT5 := hid ht
              have C5 := hid (HCH.out.trans hc5 (fun _ _ h => h))
              obtain ⟨css, hcss, hks, hown⟩ := HR.out.keep hc5 (fun _ _ => id)
              have hkl : ((rowUp ts).take k).length = k := by rw [List.length_take, ← HNL.out]; omega
              have HK := hid hks
              have HCSS := hid hcss
              have hown0 := hown
              rw [hkl] at hown0
              obtain ⟨A0, cap0, hv0, _⟩ := own_slice hown0
              subst hv0
              have HKL := hid hkl
              have z5 := hid (show wr.heap.size ≤ w5.heap.size from hc5.size)
              have z3 := hid (show w3.heap.size ≤ wr.heap.size from HCH.out.size)
              have OB := hid (show ∀ j, (Value.slice A0 k cap0).ownBlock = some j → w3.heap.size ≤ j ∧ j < wr.heap.size from fun j hj => by
                obtain ⟨_, _, _, ho⟩ := HR.out
                exact ho.lt j hj)
              clear hks hcss hown hkl ht hc5
              go_wp2_with (at_builtin; refine wpList_app _ rfl (.tmp 48) (.tmp 53) 181 rfl w3.heap.size 183 i0 _ 7 80 Tryz.underlying181 hi hz0 hz1 hz2 rfl (by decide) _ _ _ rfl (hown0.alloc _) ⟨w5.heap.size, 0, none⟩ 1 1 [.int .u64 0, .int .i64 ((h : Int) + 1), .int .i64 0, .int .i64 0, .int .i64 0, .string s5, .slice a5 n5 c5] rfl rfl ?d1 ?d2 (by decide) ?d3 ?d4 ?d5 ?d6)
              case d1 =>
                intro j u hu
                rw [addr_add0, (Blk.new w5 183 _).cell j]
                simpa using hu
              case d2 =>
                intro u hu
                simp at hu
                rcases hu with rfl | rfl | rfl | rfl | rfl <;> rfl
              case d3 => unfold maxLen; omega
              case d4 => omega
              case d5 => have := z5.out; have := z3.out; simp; omega
              case d6 =>
                intro v' w' hown' hgrow hfresh
                have hch' : Ch (fun _ => False) w3 w' := (C5.out.alloc _).grown hgrow (fun g hg hl => by
                  have := (OB.out g hg).1
                  omega)
                have hR' : RowT w' w3.heap.size (fun k => w.heap.size < k) v' ((rowUp ts).take k ++ [.node (h + 1) ((ts.drop p).take z)]) := RowT.snoc HCSS.out HK.out (HT5.out.keep (Ch.refl (fun _ => False) w5) (fun _ _ _ => id) (fun j hj h => by
                  have := B3lt
                  have := z3.out
                  refine ⟨by rcases h with h | h <;> omega, fun hv => ?_⟩
                  have := OB.out j hv
                  rcases h with h | h <;> omega)) ((Ch.refl (fun _ => False) w5).alloc _) (by rw [HKL.out]; exact hown') hgrow hfresh
                go_wp2_with fail
                refine ⟨⟨k + 1, cc - z, by omega, by push_cast; rfl, by rw [HTK.out]; exact hR', fun hk1 => ?_, hch'⟩, by simp only [intOf]; omega⟩
                have hn := hnext.out hk1
                rw [if_neg (by omega), HP1.out]
                exact ⟨by rw [show off + p * 7 + z * 7 = off + (p + z) * 7 by omega, Nat.sub_sub], by omega⟩
            · obtain rfl : ns.length = k := by omega
              have y1 : decide (ns.length < ns.length) = false := decide_eq_false (by omega)
              rw [List.take_of_length_le (by rw [HNL.out]; exact Nat.le_refl _)] at hR
              obtain ⟨ra', rc', hrv, hrc'⟩ := hR.slice
              subst hrv
              have HR := hid hR
              have HCH := hid hch
              clear hR hch hv
              go_wp2_with fail
              refine ⟨⟨rowUp ts, h + 1, ra', rc', rfl, hrc', HR.out.reads _ (fun k hk h => by rcases h with h | h <;> omega), by rw [← topT_up hl]; exact HTOP.out, fun _ => rowUp_fit hl HFIT.out, by omega, HCH.out.blk B3.out id, C3.out.trans HCH.out (fun _ _ h => h)⟩, by simp only [lenV]; omega⟩
        · have z1 : decide (1 < ts.length) = false := decide_eq_false hl
          have z2 : decide ((1 : Int) < (ts.length : Int)) = false := decide_eq_false (by omega)
          rw [topT_le (by omega)] at htop
          have hbl := hB.lt
          by_cases h0 : ts.length = 0
          · have hts : ts = [] := List.eq_nil_of_length_eq_zero h0
            have hs0 : s.size = 0 := by
              rw [← build_bytes s, ← htop, hts]
              rfl
            rw [h0] at z1 z2 ⊢
            have HB := hid hB
            have HC := hid hC
            clear hI htop hfit hB hC hts
            go_wp2_with fail
            refine (group_zero a c wr).mono ?_
            rintro e w5 ⟨rfl, hc5⟩
            have B5 := hid (hc5.blk HB.out id)
            have C5 := hid (HC.out.trans hc5 (fun _ _ h => h))
            clear hc5
            simp only [zTree, List.toArray]
            have r0 : w5.cell? ⟨w.heap.size, 0, none⟩ = some (.int .u64 0) := B5.out.cell 0
            have r1 : w5.cell? ⟨w.heap.size, 1, none⟩ = some (.int .i64 0) := B5.out.cell 1
            have r2 : w5.cell? ⟨w.heap.size, 2, none⟩ = some (.int .i64 0) := B5.out.cell 2
            have r3 : w5.cell? ⟨w.heap.size, 3, none⟩ = some (.int .i64 0) := B5.out.cell 3
            have r4 : w5.cell? ⟨w.heap.size, 4, none⟩ = some (.int .i64 0) := B5.out.cell 4
            have r5 : w5.cell? ⟨w.heap.size, 5, none⟩ = some (.string ⟨#[]⟩) := B5.out.cell 5
            have r6 : w5.cell? ⟨w.heap.size, 6, none⟩ = some (.slice none 0 0) := B5.out.cell 6
            have s0 := B5.out.free 0
            have s1 := B5.out.free 1
            have s2 := B5.out.free 2
            have s3 := B5.out.free 3
            have s4 := B5.out.free 4
            have s5' := B5.out.free 5
            have s6 := B5.out.free 6
            go_wp2_with fail
            refine at_world fun W6 hW6 => ?_
            have C6 := hid (show Ch (fun k => k = w.heap.size) w5 W6 from by rw [hW6]; exact ((((((((Ch.refl (fun k => k = w.heap.size) w5).set (fun _ => rfl) _).set (fun _ => rfl) _).set (fun _ => rfl) _).set (fun _ => rfl) _).set (fun _ => rfl) _).set (fun _ => rfl) _).set (fun _ => rfl) _))
            have B6 := hid (show Blk W6 w.heap.size 183 #[.int .u64 0, .int .i64 0, .int .i64 0, .int .i64 0, .int .i64 0, .string ⟨#[]⟩, .slice none 0 0] from by rw [hW6]; exact (((((((B5.out.put 0 _).put 1 _).put 2 _).put 3 _).put 4 _).put 5 _).put 6 _))
            clear hW6 r0 r1 r2 r3 r4 r5 r6 s0 s1 s2 s3 s4 s5' s6
            have t0 : W6.cell? ⟨w.heap.size, 0, none⟩ = some (.int .u64 0) := B6.out.cell 0
            have t1 : W6.cell? ⟨w.heap.size, 1, none⟩ = some (.int .i64 0) := B6.out.cell 1
            have t2 : W6.cell? ⟨w.heap.size, 2, none⟩ = some (.int .i64 0) := B6.out.cell 2
            have t3 : W6.cell? ⟨w.heap.size, 3, none⟩ = some (.int .i64 0) := B6.out.cell 3
            have t4 : W6.cell? ⟨w.heap.size, 4, none⟩ = some (.int .i64 0) := B6.out.cell 4
            have t5 : W6.cell? ⟨w.heap.size, 5, none⟩ = some (.string ⟨#[]⟩) := B6.out.cell 5
            have t6 : W6.cell? ⟨w.heap.size, 6, none⟩ = some (.slice none 0 0) := B6.out.cell 6
            have hck : Ch (fun _ => False) w W6 := C5.out.trans C6.out (fun i hi e => absurd hi (by omega))
            refine bodyPost_ret (v := .tuple #[.agg #[.int .u64 0, .int .i64 0, .int .i64 0, .int .i64 0, .int .i64 0, .string ⟨#[]⟩, .slice none 0 0], .int .i64 0]) (by simp [results, Tryz.results80, go_sem, t0, t1, t2, t3, t4, t5, t6]) rfl ⟨[.int .u64 0, .int .i64 0, .int .i64 0, .int .i64 0, .int .i64 0, .string ⟨#[]⟩, .slice none 0 0], rfl, hck, .inl ⟨hs0, rfl⟩⟩
          · obtain ⟨t, hts⟩ : ∃ t, ts = [t] := by
              match ts, h0, hl with
              | [], h0, _ => exact absurd rfl h0
              | [t], _, _ => exact ⟨t, rfl⟩
              | _ :: _ :: _, _, hl => exact absurd (by simp) hl
            subst hts
            obtain ⟨b, off, rfl⟩ := hI.some (by simp)
            have HI := hid hI
            have HTOP := hid htop
            have HB := hid hB
            have HC := hid hC
            clear hI htop hfit hB hC
            go_wp2_with fail
            refine (group_one (fun k => w.heap.size < k) b off c t wr HI.out).mono ?_
            rintro e w5 ⟨cs, rfl, ht, hc5⟩
            obtain ⟨s5, a5, n5, c5, rfl⟩ := ht.form
            have HT5 := hid ht
            have B5 := hid (hc5.blk HB.out id)
            have C5 := hid (HC.out.trans hc5 (fun _ _ h => h))
            have z5 := hid (show wr.heap.size ≤ w5.heap.size from hc5.size)
            clear hc5 ht
            have hwz := HC.out.size
            have r0 : w5.cell? ⟨w.heap.size, 0, none⟩ = some (.int .u64 0) := B5.out.cell 0
            have r1 : w5.cell? ⟨w.heap.size, 1, none⟩ = some (.int .i64 0) := B5.out.cell 1
            have r2 : w5.cell? ⟨w.heap.size, 2, none⟩ = some (.int .i64 0) := B5.out.cell 2
            have r3 : w5.cell? ⟨w.heap.size, 3, none⟩ = some (.int .i64 0) := B5.out.cell 3
            have r4 : w5.cell? ⟨w.heap.size, 4, none⟩ = some (.int .i64 0) := B5.out.cell 4
            have r5 : w5.cell? ⟨w.heap.size, 5, none⟩ = some (.string ⟨#[]⟩) := B5.out.cell 5
            have r6 : w5.cell? ⟨w.heap.size, 6, none⟩ = some (.slice none 0 0) := B5.out.cell 6
            have s0 := B5.out.free 0
            have s1 := B5.out.free 1
            have s2 := B5.out.free 2
            have s3 := B5.out.free 3
            have s4 := B5.out.free 4
            have s5' := B5.out.free 5
            have s6 := B5.out.free 6
            go_wp2_with fail
            refine at_world fun W6 hW6 => ?_
            have C6 := hid (show Ch (fun k => k = w.heap.size) w5 W6 from by rw [hW6]; exact ((((((((Ch.refl (fun k => k = w.heap.size) w5).set (fun _ => rfl) _).set (fun _ => rfl) _).set (fun _ => rfl) _).set (fun _ => rfl) _).set (fun _ => rfl) _).set (fun _ => rfl) _).set (fun _ => rfl) _))
            have B6 := hid (show Blk W6 w.heap.size 183 #[.int .u64 0, .int .i64 (Int.ofNat t.ht), .int .i64 0, .int .i64 0, .int .i64 0, .string s5, .slice a5 n5 c5] from by rw [hW6]; exact (((((((B5.out.put 0 _).put 1 _).put 2 _).put 3 _).put 4 _).put 5 _).put 6 _))
            clear hW6 r0 r1 r2 r3 r4 r5 r6 s0 s1 s2 s3 s4 s5' s6
            have t0 : W6.cell? ⟨w.heap.size, 0, none⟩ = some (.int .u64 0) := B6.out.cell 0
            have t1 : W6.cell? ⟨w.heap.size, 1, none⟩ = some (.int .i64 (Int.ofNat t.ht)) := B6.out.cell 1
            have t2 : W6.cell? ⟨w.heap.size, 2, none⟩ = some (.int .i64 0) := B6.out.cell 2
            have t3 : W6.cell? ⟨w.heap.size, 3, none⟩ = some (.int .i64 0) := B6.out.cell 3
            have t4 : W6.cell? ⟨w.heap.size, 4, none⟩ = some (.int .i64 0) := B6.out.cell 4
            have t5 : W6.cell? ⟨w.heap.size, 5, none⟩ = some (.string s5) := B6.out.cell 5
            have t6 : W6.cell? ⟨w.heap.size, 6, none⟩ = some (.slice a5 n5 c5) := B6.out.cell 6
            have hck : Ch (fun _ => False) w W6 := C5.out.trans C6.out (fun i hi e => absurd hi (by omega))
            refine bodyPost_ret (v := .tuple #[.agg #[.int .u64 0, .int .i64 (Int.ofNat t.ht), .int .i64 0, .int .i64 0, .int .i64 0, .string s5, .slice a5 n5 c5], .int .i64 0]) (by simp [results, Tryz.results80, go_sem, t0, t1, t2, t3, t4, t5, t6]) rfl ⟨[.int .u64 0, .int .i64 (Int.ofNat t.ht), .int .i64 0, .int .i64 0, .int .i64 0, .string s5, .slice a5 n5 c5], rfl, hck, .inr ⟨t, HTOP.out.symm, HT5.out.keep C6.out (fun k hk h => by have := z5.out; rcases h with h | h <;> omega) (fun k hk h => by have := z5.out; rcases h with h | h <;> omega)⟩⟩
end Go.Proofs.YtjcdknhejcbpiaaGreat
