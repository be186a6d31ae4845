/- Lemmas that the proof of the last text leans on; no condition. -/
import Derived.Test.YtjcdknhejcbpiaaGreatNb34
import Derived.Test.YtjcdknhejcbpiaaGreatNb15
import Derived.Test.YtjcdknhejcbpiaaGreatNb12
import Derived.Test.YtjcdknhejcbpiaaGreatNb32
import Derived.Test.YtjcdknhejcbpiaaGreatNb33
import Derived.Test.YtjcdknhejcbpiaaGreatNb10
import Derived.Test.YtjcdknhejcbpiaaGreatNb37
import Derived.Test.YtjcdknhejcbpiaaGreatNb27
namespace Go.Proofs.YtjcdknhejcbpiaaGreat
open Go.RowKit
set_option linter.unusedVariables false
set_option linter.unusedSimpArgs false
set_option linter.unusedSectionVars false
theorem dsize (s : ByteArray) : s.data.toList.length = s.size := by rw [Array.length_toList]; rfl
mutual
def T.text : T → List UInt8
  | .leaf s => s.data.toList
  | .node _ ks => T.textL ks
def T.textL : List T → List UInt8
  | [] => []
  | t :: ts => t.text ++ T.textL ts
end
theorem textL_app (a b : List T) : T.textL (a ++ b) = T.textL a ++ T.textL b := by
  induction a with
  | nil => rfl
  | cons t l ih => simp [T.textL, ih]
theorem group_text (l : List T) : (groupT l).text = T.textL l := by
  unfold groupT
  split
  · simp [T.textL]
  · rfl
theorem rowUp_text (l : List T) : T.textL (rowUp l) = T.textL l := by
  have h1 : ∀ (L : List (List T)), T.textL (L.map groupT) = T.textL L.flatten := by
    intro L
    induction L with
    | nil => rfl
    | cons x L ih => simp only [List.map_cons, T.textL, List.flatten_cons, textL_app, group_text, ih]
  unfold rowUp
  rw [h1, cutL_flat _ _ (sizes_sum _ _ (by decide))]
theorem topT_text (l : List T) : T.textL (topT l) = T.textL l := by
  by_cases h1 : l.length ≤ 1
  · rw [topT_le h1]
  · rw [topT_up (by omega), topT_text (rowUp l), rowUp_text]
termination_by l.length
decreasing_by exact rowUp_lt (by omega)
theorem bext_list (s : ByteArray) (i j : Nat) : (s.extract i j).data.toList = (s.data.toList.drop i).take (j - i) := by
  simp only [ByteArray.data_extract, Array.toList_extract, List.extract_eq_drop_take']
theorem cutS_text : ∀ (ns : List Nat) (s : ByteArray), ns.sum = s.size → T.textL ((cutS ns s).map .leaf) = s.data.toList
  | [], s, h => by
    have : s.data.toList = [] := List.eq_nil_of_length_eq_zero (by rw [dsize]; simpa using h.symm)
    rw [this]
    try rfl
  | n :: ns, s, h => by
    simp at h
    simp only [cutS, List.map_cons, T.textL, T.text]
    rw [cutS_text ns (s.extract n s.size) (by rw [ByteArray.size_extract]; omega), bext_list, bext_list]
    have hs := dsize s
    rw [List.drop_zero, Nat.sub_zero, List.take_of_length_le (l := s.data.toList.drop n) (by rw [List.length_drop]; omega), List.take_append_drop]
theorem base_text (s : ByteArray) : T.textL (baseT s) = s.data.toList := cutS_text _ _ (sizes_sum _ _ (by decide))
theorem build_text {s : ByteArray} {t : T} (h : buildT s = [t]) : t.text = s.data.toList := by
  have := topT_text (baseT s)
  rw [base_text] at this
  rw [← this, show topT (baseT s) = [t] from h]
  simp [T.textL]
def u8s (l : List UInt8) : List Int := l.map fun u => (u.toNat : Int)
def mL (l : List UInt8) : Ms := ⟨(l.length : Int), (cntP begB (u8s l) : Int), (cntP (fun b => b == 10) (u8s l) : Int)⟩
theorem mOf_list (s : ByteArray) : mOf s = mL s.data.toList := by
  unfold mOf mL bs u8s
  rw [dsize]
theorem cntP_app (f : Int → Bool) (a b : List Int) : cntP f (a ++ b) = cntP f a + cntP f b := by
  unfold cntP
  rw [List.filter_append, List.length_append]
theorem mL_app (a b : List UInt8) : mL (a ++ b) = (mL a).add (mL b) := by
  simp only [mL, Ms.add, u8s, List.map_append, cntP_app, List.length_append]
  push_cast
  try rfl
theorem ms_assoc (a b c : Ms) : (a.add b).add c = a.add (b.add c) := by
  simp only [Ms.add, Int.add_assoc]
theorem ms_zero (a : Ms) : (⟨0, 0, 0⟩ : Ms).add a = a := by
  simp only [Ms.add, Int.zero_add]
theorem fold_add : ∀ (l : List Ms) (m : Ms), l.foldl Ms.add m = m.add (l.foldl Ms.add ⟨0, 0, 0⟩)
  | [], m => by simp [Ms.add]
  | x :: l, m => by
    simp only [List.foldl_cons]
    rw [fold_add l (m.add x), fold_add l (Ms.add ⟨0, 0, 0⟩ x), ms_zero, ms_assoc]
theorem msum_cons (m : Ms) (l : List Ms) : msum (m :: l) = m.add (msum l) := by
  unfold msum
  rw [List.foldl_cons, fold_add, ms_zero]
theorem meas_text (t : T) : t.meas = mL t.text := by
  induction t using T.ind with
  | hl s => exact mOf_list s
  | hn h ks ih =>
    have hl : ∀ (l : List T), (∀ t ∈ l, t.meas = mL t.text) → msum (T.measL l) = mL (T.textL l) := by
      intro l
      induction l with
      | nil => intro _; rfl
      | cons t ts ih' =>
        intro h
        simp only [T.measL, T.textL]
        rw [msum_cons, mL_app, h t (by simp), ih' (fun t ht => h t (by simp [ht]))]
    exact hl ks ih
inductive Nt (ns : List An) : Nat → T → Prop
  | leaf {i : Nat} {s : ByteArray} {y : An} (hi : ns[i]? = some y) (e : y.x = ⟨0, s, []⟩) : Nt ns i (.leaf s)
  | node {i h : Nat} {ks : List T} {y : An} {kd : List Kd} (hi : ns[i]? = some y) (e : y.x = ⟨h, ⟨#[]⟩, kd⟩) (hl : kd.length = ks.length) (hm : ∀ (j : Nat) (k : Kd) (t : T), kd[j]? = some k → ks[j]? = some t → k.m = t.meas)
      (hk : ∀ (j : Nat) (k : Kd) (t : T), kd[j]? = some k → ks[j]? = some t → Nt ns k.at' t) : Nt ns i (.node h ks)
theorem Nt.app {ns l : List An} {i : Nat} {t : T} (h : Nt ns i t) : Nt (ns ++ l) i t := by
  induction h with
  | leaf hi e => exact .leaf (by rw [List.getElem?_append_left (List.getElem?_eq_some_iff.1 hi).1]; exact hi) e
  | node hi e hl hm hk ih => exact .node (by rw [List.getElem?_append_left (List.getElem?_eq_some_iff.1 hi).1]; exact hi) e hl hm ih
theorem postL_at : ∀ (ks : List T) (n j : Nat) (t : T), ks[j]? = some t → ∃ m, (rootL n ks)[j]? = some (n + m + t.cnt - 1) ∧ ∀ i sp, (T.post (n + m) t)[i]? = some sp → (T.postL n ks)[m + i]? = some sp
  | [], n, j, t, h => by simp at h
  | u :: us, n, 0, t, h => by
    simp at h
    subst h
    refine ⟨0, rfl, fun i sp hi => ?_⟩
    rw [Nat.add_zero] at hi
    rw [Nat.zero_add, T.postL, List.getElem?_append_left (List.getElem?_eq_some_iff.1 hi).1]
    exact hi
  | u :: us, n, j + 1, t, h => by
    obtain ⟨m, h1, h2⟩ := postL_at us (n + u.cnt) j t (by simpa using h)
    refine ⟨u.cnt + m, ?_, fun i sp hi => ?_⟩
    · rw [rootL, List.getElem?_cons_succ, h1, Nat.add_assoc n]
    · rw [T.postL, List.getElem?_append_right (by rw [post_len]; omega), post_len, show u.cnt + m + i - u.cnt = m + i by omega]
      exact h2 i sp (by rw [Nat.add_assoc]; exact hi)
theorem nt_post (L : List Sp) (n0 : Nat) (ns : List An) (hL : ∀ i sp, L[i]? = some sp → ∃ y, ns[n0 + i]? = some y ∧ y.x = sp.nd n0 L) (t : T) : ∀ n, (∀ i sp, (T.post n t)[i]? = some sp → L[n + i]? = some sp) → Nt ns (n0 + (n + t.cnt - 1)) t := by
  induction t using T.ind with
  | hl s =>
    intro n h
    obtain ⟨y, hy, e⟩ := hL n _ (h 0 _ rfl)
    exact .leaf (by simpa [T.cnt] using hy) e
  | hn hh ks ih =>
    intro n h
    have hlast : (T.post n (.node hh ks))[T.cntL ks]? = some ⟨hh, ⟨#[]⟩, rootL n ks, msum (T.measL ks)⟩ := by
      rw [T.post, List.getElem?_append_right (by rw [postL_len]; exact Nat.le_refl _), postL_len, Nat.sub_self]; rfl
    obtain ⟨y, hy, e⟩ := hL _ _ (h _ _ hlast)
    have hpart : ∀ (j : Nat) (k : Kd) (t : T), ((rootL n ks).map fun j => (⟨n0 + j, mAt 0 L j⟩ : Kd))[j]? = some k → ks[j]? = some t → k.m = t.meas ∧ Nt ns k.at' t := by
      intro j k t hk ht
      obtain ⟨m, h1, h2⟩ := postL_at ks n j t ht
      rw [List.getElem?_map, h1] at hk
      injection hk with hk
      subst hk
      have hsub : ∀ i sp, (T.post (n + m) t)[i]? = some sp → L[n + m + i]? = some sp := fun i sp hi => by
        have := h (m + i) sp (by
          have hp := h2 i sp hi
          rw [T.post, List.getElem?_append_left (List.getElem?_eq_some_iff.1 hp).1]
          exact hp)
        rw [Nat.add_assoc]; exact this
      refine ⟨?_, ih t (List.mem_of_getElem? ht) (n + m) hsub⟩
      obtain ⟨sp, hs, hm, _⟩ := post_last' t (n + m)
      have hc := cnt_pos t
      have := hsub _ _ hs
      show mAt 0 L _ = _
      unfold mAt
      rw [Nat.sub_zero, show n + m + t.cnt - 1 = n + m + (t.cnt - 1) by omega, this]
      exact hm
    refine .node (y := y) (kd := (rootL n ks).map fun j => (⟨n0 + j, mAt 0 L j⟩ : Kd)) (by rw [T.cnt, show n + (T.cntL ks + 1) - 1 = n + T.cntL ks by omega]; exact hy) e (by rw [List.length_map, rootL_len]) (fun j k t a b => (hpart j k t a b).1) (fun j k t a b => (hpart j k t a b).2)
theorem nt_root {ns : List An} {n0 : Nat} {t : T} (h : ∀ i sp, (T.post 0 t)[i]? = some sp → ∃ y, ns[n0 + i]? = some y ∧ y.x = sp.nd n0 (T.post 0 t)) : Nt ns (n0 + (t.cnt - 1)) t := by
  have := nt_post (T.post 0 t) n0 ns h t 0 (fun i sp hi => by rw [Nat.zero_add]; exact hi)
  rwa [Nat.zero_add] at this
def nthP (p : Int → Bool) : List Int → Nat → Nat
  | [], _ => 0
  | x :: l, n => if p x = true then (if n = 0 then 0 else 1 + nthP p l (n - 1)) else 1 + nthP p l n
def isLF (b : Int) : Bool := b == 10
structure Chosen (f : Ms → Int) (ms : List Ms) (n : Int) (i : Nat) (r : Int) : Prop where
  at' : ∃ m, ms[i]? = some m ∧ r < f m
  nn : 0 ≤ r
  eq : n = f (msum (ms.take i)) + r
structure Dn (f : Ms → Int) (tx : List UInt8) (ns : List An) (ix : Nat) (n r : Int) (base : Ms) : Prop where
  ex : ∃ u pre post, Nt ns ix u ∧ tx = pre ++ u.text ++ post ∧ mL pre = base ∧ n = f base + r ∧ 0 ≤ r ∧ r < f (mL u.text)
set_option maxRecDepth 100000
set_option maxRecDepth 100000
theorem rope_nt {ns ys : List An} {t : T} (hl : ys.length = t.cnt) (h : ∀ (j : Nat) (y : An), ys[j]? = some y → ∃ sp, (T.post 0 t)[j]? = some sp ∧ y.x = sp.nd ns.length (T.post 0 t)) (hp : (T.post 0 t).length = t.cnt) : Nt (ns ++ ys) (ns.length + (t.cnt - 1)) t := by
  apply nt_root
  intro i sp hi
  have hlt := (List.getElem?_eq_some_iff.1 hi).1
  obtain ⟨y, hy⟩ : ∃ y, ys[i]? = some y := ⟨_, List.getElem?_eq_getElem (by omega)⟩
  obtain ⟨sp', h1, h2⟩ := h i y hy
  rw [hi] at h1
  injection h1 with h1
  subst h1
  exact ⟨y, by rw [List.getElem?_append_right (by omega), show ns.length + i - ns.length = i by omega]; exact hy, h2⟩
set_option maxRecDepth 100000 in
set_option maxHeartbeats 1000000 in
theorem begin_e (A : ArA) (ns : List An) (st : Int) (hn : A.n ≤ 16384) (w : World) (h : ArM A w ns st) : Calls Tryz.prog 119 #[.pointer (some ⟨A.ab, 0, none⟩), (.agg #[.int .u64 0, .int .i64 0, .int .i64 0, .int .i64 0, .int .i64 0, .string ⟨#[]⟩, .slice none 0 0])] w fun e w' => ∃ pb rb, e = .returned (.tuple #[.pointer (some ⟨pb, 0, none⟩), .int .i64 0]) ∧ Blk w' pb 248 #[.pointer (some ⟨A.ab, 0, none⟩), .slice none 0 0, .pointer (some ⟨rb, 0, none⟩)] ∧ Blk w' rb 102 #[.int .u64 0, .int .i64 0, .int .i64 0, .int .i64 0, .int .i64 0] ∧ Ch (fun _ => False) w w' := by
  go_enter Tryz.func119, Tryz.ntmps119
  go_wp2_with fail
  refine calls_world fun W1 hW1 => ?_
  have cW : Ch (fun _ => False) w W1 := by rw [hW1]; exact (Ch.refl _ w).alloc _
  have bT : Blk W1 w.heap.size 183 #[.int .u64 0, .int .i64 0, .int .i64 0, .int .i64 0, .int .i64 0, .string ⟨#[]⟩, .slice none 0 0] := by rw [hW1]; exact Blk.new w _ _
  have HC := hid cW
  have HB := hid bT
  have HM := hid (h.keep0 cW)
  clear hW1 cW bT h
  refine (planCheck0 A.ab W1).mono ?_
  rintro e w2 ⟨rfl, hc⟩
  have HC2 := hid (HC.out.trans hc (fun _ _ h => h))
  have HB2 := hid (hc.blk HB.out id)
  have HM2 := hid (HM.out.keep0 hc)
  clear hc
  have r0 : w2.cell? ⟨w.heap.size, 0, none⟩ = some (.int .u64 0) := HB2.out.cell 0
  have r1 : w2.cell? ⟨w.heap.size, 1, none⟩ = some (.int .i64 0) := HB2.out.cell 1
  have r2 : w2.cell? ⟨w.heap.size, 2, none⟩ = some (.int .i64 0) := HB2.out.cell 2
  have r3 : w2.cell? ⟨w.heap.size, 3, none⟩ = some (.int .i64 0) := HB2.out.cell 3
  have r4 : w2.cell? ⟨w.heap.size, 4, none⟩ = some (.int .i64 0) := HB2.out.cell 4
  have r5 : w2.cell? ⟨w.heap.size, 5, none⟩ = some (.string ⟨#[]⟩) := HB2.out.cell 5
  have r6 : w2.cell? ⟨w.heap.size, 6, none⟩ = some (.slice none 0 0) := HB2.out.cell 6
  go_wp2_with fail
  clear r0 r1 r2 r3 r4 r5 r6
  refine (planNew0 w2).mono ?_
  rintro e w3 ⟨rfl, hc⟩
  have HC3 := hid (HC2.out.trans hc (fun _ _ h => h))
  have HB3 := hid (hc.blk HB2.out id)
  have HM3 := hid (HM2.out.keep0 hc)
  clear hc
  go_wp2_with fail
  refine (statsM A ns st hn w3 HM3.out).mono ?_
  rintro e w4 ⟨rfl, hc⟩
  obtain ⟨fr, hfr⟩ : ∃ fr, fr = A.n - ns.length := ⟨_, rfl⟩
  rw [← hfr]
  clear hfr
  have HC4 := hid (HC3.out.trans hc (fun _ _ h => h))
  have HB4 := hid (hc.blk HB3.out id)
  clear hc
  have hl4 := HB4.out.lt
  have r0 : w4.cell? ⟨w.heap.size, 0, none⟩ = some (.int .u64 0) := HB4.out.cell 0
  have r1 : w4.cell? ⟨w.heap.size, 1, none⟩ = some (.int .i64 0) := HB4.out.cell 1
  have r2 : w4.cell? ⟨w.heap.size, 2, none⟩ = some (.int .i64 0) := HB4.out.cell 2
  have r3 : w4.cell? ⟨w.heap.size, 3, none⟩ = some (.int .i64 0) := HB4.out.cell 3
  have r4 : w4.cell? ⟨w.heap.size, 4, none⟩ = some (.int .i64 0) := HB4.out.cell 4
  have r5 : w4.cell? ⟨w.heap.size, 5, none⟩ = some (.string ⟨#[]⟩) := HB4.out.cell 5
  have r6 : w4.cell? ⟨w.heap.size, 6, none⟩ = some (.slice none 0 0) := HB4.out.cell 6
  have hfd : ∀ W : World, (Instr.field 97 (.agg #[.int .i64 (A.n : Int), .int .i64 (fr : Int), .int .i64 (ns.length : Int), .int .i64 0, .int .i64 (ns.length : Int), .int .i64 0, .int .i64 st]) 1).run Tryz.prog W = .ok (.int .i64 (fr : Int)) W := fun W => by kernel_rfl
  go_wp2_with fail
  refine calls_world fun W5 hW5 => ?_
  have c5 : Ch (fun _ => False) w4 W5 := by rw [hW5]; exact (Ch.refl _ w4).alloc _
  have b5 : Blk W5 w4.heap.size 248 #[.pointer (some ⟨A.ab, 0, none⟩), .slice none 0 0, .pointer none] := by rw [hW5]; exact Blk.new w4 _ _
  have HC5 := hid (HC4.out.trans c5 (fun _ _ h => h))
  have HB5 := hid b5
  have z5 : w.heap.size ≤ w4.heap.size := HC4.out.size
  clear hW5 c5 b5 r0 r1 r2 r3 r4 r5 r6
  refine (add0 _ W5).mono ?_
  rintro e w6 ⟨rb, rfl, hrb, hc, hz⟩
  have HC6 := hid (HC5.out.trans hc (fun _ _ h => h))
  have HB6 := hid (hc.blk HB5.out id)
  have HR6 := hid hrb
  clear hc hrb
  have r0 : w6.cell? ⟨w4.heap.size, 0, none⟩ = some (.pointer (some ⟨A.ab, 0, none⟩)) := HB6.out.cell 0
  have r1 : w6.cell? ⟨w4.heap.size, 1, none⟩ = some (.slice none 0 0) := HB6.out.cell 1
  have r2 : w6.cell? ⟨w4.heap.size, 2, none⟩ = some (.pointer none) := HB6.out.cell 2
  have s0 := HB6.out.free 0
  have s1 := HB6.out.free 1
  have s2 := HB6.out.free 2
  go_wp2_with fail
  go_ret2
  refine ⟨w4.heap.size, rb, rfl, HB6.out.put 2 _, HR6.out.far (Blk.ne HR6.out HB6.out (by decide)) _, HC6.out.set (fun ho => absurd ho (by omega)) _⟩
set_option maxRecDepth 100000 in
set_option maxHeartbeats 1000000 in
theorem write_e (A : ArA) (ns : List An) (st : Int) (hn : A.n ≤ 16384) (w : World) (h : ArM A w ns st) : Calls Tryz.prog 81 #[.pointer (some ⟨A.ab, 0, none⟩), (.agg #[.int .u64 0, .int .i64 0, .int .i64 0, .int .i64 0, .int .i64 0, .string ⟨#[]⟩, .slice none 0 0])] w fun e w' => e = .returned (.tuple #[(.agg #[.int .u64 0, .int .i64 0, .int .i64 0, .int .i64 0, .int .i64 0]), .slice none 0 0, .int .i64 0]) ∧ Ch (fun _ => False) w w' := by
  go_enter Tryz.func81, Tryz.ntmps81
  go_wp2_with fail
  refine calls_world fun W1 hW1 => ?_
  have cW : Ch (fun _ => False) w W1 := by rw [hW1]; exact ((Ch.refl _ w).alloc _).alloc _
  have bR : Blk W1 (w.heap.size + 1) 102 #[.int .u64 0, .int .i64 0, .int .i64 0, .int .i64 0, .int .i64 0] := by
    rw [hW1]
    have := Blk.new (w.alloc (.cells #[.int .u64 0, .int .i64 0, .int .i64 0, .int .i64 0, .int .i64 0, .string ⟨#[]⟩, .slice none 0 0] 183)) 102 #[.int .u64 0, .int .i64 0, .int .i64 0, .int .i64 0, .int .i64 0]
    simpa using this
  have HC := hid cW
  have HR := hid bR
  have HM := hid (h.keep0 cW)
  clear hW1 cW bR h
  refine (begin_e A ns st hn W1 HM.out).mono ?_
  rintro e w2 ⟨pb, rb, rfl, hp, hr, hc⟩
  have HC2 := hid (HC.out.trans hc (fun _ _ h => h))
  have HR2 := hid (hc.blk HR.out id)
  have HP2 := hid hp
  have HRB2 := hid hr
  have hp1 : w2.cell? ⟨pb, 1, none⟩ = some (.slice none 0 0) := hp.cell 1
  clear hc hp hr
  go_wp2_with fail
  go_loopw [5, 6] (fun f e W => f = .slice none 0 0 ∧ e = .int .i64 0 ∧ W = w2) (fun _ _ _ => 0)
  case atStart => exact ⟨rfl, rfl, rfl⟩
  case round =>
    obtain ⟨rfl, rfl, rfl⟩ := hrel
    go_wp2_with fail
    refine (root0 pb rb A.ab _ HP2.out HRB2.out).mono ?_
    rintro e w3 ⟨rfl, hc⟩
    have HC3 := hid (HC2.out.trans hc (fun _ _ h => h))
    have HR3 := hid (hc.blk HR2.out id)
    clear hc
    have r0 : w3.cell? ⟨w.heap.size + 1, 0, none⟩ = some (.int .u64 0) := HR3.out.cell 0
    have r1 : w3.cell? ⟨w.heap.size + 1, 1, none⟩ = some (.int .i64 0) := HR3.out.cell 1
    have r2 : w3.cell? ⟨w.heap.size + 1, 2, none⟩ = some (.int .i64 0) := HR3.out.cell 2
    have r3 : w3.cell? ⟨w.heap.size + 1, 3, none⟩ = some (.int .i64 0) := HR3.out.cell 3
    have r4 : w3.cell? ⟨w.heap.size + 1, 4, none⟩ = some (.int .i64 0) := HR3.out.cell 4
    have s0 := HR3.out.free 0
    have s1 := HR3.out.free 1
    have s2 := HR3.out.free 2
    have s3 := HR3.out.free 3
    have s4 := HR3.out.free 4
    go_wp2_with fail
    refine at_world fun W7 hW7 => ?_
    have B7 : Blk W7 (w.heap.size + 1) 102 #[.int .u64 0, .int .i64 0, .int .i64 0, .int .i64 0, .int .i64 0] := by rw [hW7]; exact ((((((((((HR3.out.put 0 _).put 1 _).put 2 _).put 3 _).put 4 _).put 0 _).put 1 _).put 2 _).put 3 _).put 4 _)
    have c7 : Ch (fun k => k = (w.heap.size + 1)) w3 W7 := by rw [hW7]; exact (((((((((((Ch.refl (fun k => k = (w.heap.size + 1)) w3).set (fun _ => rfl) _).set (fun _ => rfl) _).set (fun _ => rfl) _).set (fun _ => rfl) _).set (fun _ => rfl) _).set (fun _ => rfl) _).set (fun _ => rfl) _).set (fun _ => rfl) _).set (fun _ => rfl) _).set (fun _ => rfl) _)
    have t0 : W7.cell? ⟨(w.heap.size + 1), 0, none⟩ = some (.int .u64 0) := B7.cell 0
    have t1 : W7.cell? ⟨(w.heap.size + 1), 1, none⟩ = some (.int .i64 0) := B7.cell 1
    have t2 : W7.cell? ⟨(w.heap.size + 1), 2, none⟩ = some (.int .i64 0) := B7.cell 2
    have t3 : W7.cell? ⟨(w.heap.size + 1), 3, none⟩ = some (.int .i64 0) := B7.cell 3
    have t4 : W7.cell? ⟨(w.heap.size + 1), 4, none⟩ = some (.int .i64 0) := B7.cell 4
    refine bodyPost_ret (v := .tuple #[(.agg #[.int .u64 0, .int .i64 0, .int .i64 0, .int .i64 0, .int .i64 0]), .slice none 0 0, .int .i64 0]) ?_ rfl ⟨rfl, HC3.out.trans c7 (fun i hi e => absurd hi (by omega))⟩
    clear hW7 c7
    simp [results, Tryz.results81, go_sem, t0, t1, t2, t3, t4]
set_option maxRecDepth 100000 in
set_option maxHeartbeats 1000000 in
theorem rnew_e (A : ArA) (ns : List An) (st : Int) (hn : A.n ≤ 16384) (w : World) (h : ArM A w ns st) : Calls Tryz.prog 47 #[.pointer (some ⟨A.ab, 0, none⟩), (.string ⟨#[]⟩)] w fun e w' => e = .returned (.tuple #[(.agg #[.int .u64 0, .int .i64 0, .int .i64 0, .int .i64 0, .int .i64 0]), .int .i64 0]) ∧ Ch (fun _ => False) w w' := by
  go_enter Tryz.func47, Tryz.ntmps47
  go_wp2_with fail
  refine calls_world fun W1 hW1 => ?_
  have cW : Ch (fun _ => False) w W1 := by rw [hW1]; exact (Ch.refl _ w).alloc _
  have bR : Blk W1 w.heap.size 102 #[.int .u64 0, .int .i64 0, .int .i64 0, .int .i64 0, .int .i64 0] := by rw [hW1]; exact Blk.new w _ _
  have HC := hid cW
  have HR := hid bR
  have HM := hid (h.keep0 cW)
  clear hW1 cW bR h
  refine (build0 W1).mono ?_
  rintro e w2 ⟨rfl, hc⟩
  have HC2 := hid (HC.out.trans hc (fun _ _ h => h))
  have HR2 := hid (hc.blk HR.out id)
  have HM2 := hid (HM.out.keep0 hc)
  clear hc
  go_wp2_with fail
  refine calls_world fun W3 hW3 => ?_
  have c3 : Ch (fun _ => False) w2 W3 := by rw [hW3]; exact (Ch.refl _ w2).alloc _
  have HC3 := hid (HC2.out.trans c3 (fun _ _ h => h))
  have HR3 := hid (c3.blk HR2.out id)
  have HM3 := hid (HM2.out.keep0 c3)
  clear hW3 c3
  refine (write_e A ns st hn W3 HM3.out).mono ?_
  rintro e w4 ⟨rfl, hc⟩
  have HC4 := hid (HC3.out.trans hc (fun _ _ h => h))
  have HR4 := hid (hc.blk HR3.out id)
  have l4 := HR4.out.lt
  have l5 : w.heap.size ≠ w4.heap.size := Nat.ne_of_lt l4
  have l6 : w4.heap.size ≠ w.heap.size := Ne.symm l5
  clear hc
  have r0 : w4.cell? ⟨w.heap.size, 0, none⟩ = some (.int .u64 0) := HR4.out.cell 0
  have r1 : w4.cell? ⟨w.heap.size, 1, none⟩ = some (.int .i64 0) := HR4.out.cell 1
  have r2 : w4.cell? ⟨w.heap.size, 2, none⟩ = some (.int .i64 0) := HR4.out.cell 2
  have r3 : w4.cell? ⟨w.heap.size, 3, none⟩ = some (.int .i64 0) := HR4.out.cell 3
  have r4 : w4.cell? ⟨w.heap.size, 4, none⟩ = some (.int .i64 0) := HR4.out.cell 4
  have s0 := HR4.out.free 0
  have s1 := HR4.out.free 1
  have s2 := HR4.out.free 2
  have s3 := HR4.out.free 3
  have s4 := HR4.out.free 4
  go_wp2_with fail
  refine at_world fun W7 hW7 => ?_
  have B7 : Blk W7 w.heap.size 102 #[.int .u64 0, .int .i64 0, .int .i64 0, .int .i64 0, .int .i64 0] := by rw [hW7]; exact (((((HR4.out.put 0 _).put 1 _).put 2 _).put 3 _).put 4 _).alloc _
  have c7 : Ch (fun k => k = w.heap.size) w4 W7 := by rw [hW7]; exact ((((((Ch.refl (fun k => k = w.heap.size) w4).set (fun _ => rfl) _).set (fun _ => rfl) _).set (fun _ => rfl) _).set (fun _ => rfl) _).set (fun _ => rfl) _).alloc _
  have t0 : W7.cell? ⟨w.heap.size, 0, none⟩ = some (.int .u64 0) := B7.cell 0
  have t1 : W7.cell? ⟨w.heap.size, 1, none⟩ = some (.int .i64 0) := B7.cell 1
  have t2 : W7.cell? ⟨w.heap.size, 2, none⟩ = some (.int .i64 0) := B7.cell 2
  have t3 : W7.cell? ⟨w.heap.size, 3, none⟩ = some (.int .i64 0) := B7.cell 3
  have t4 : W7.cell? ⟨w.heap.size, 4, none⟩ = some (.int .i64 0) := B7.cell 4
  refine bodyPost_ret (v := .tuple #[(.agg #[.int .u64 0, .int .i64 0, .int .i64 0, .int .i64 0, .int .i64 0]), .int .i64 0]) ?_ rfl ⟨rfl, HC4.out.trans c7 (fun i hi e => absurd hi (by omega))⟩
  clear hW7 c7
  simp [results, Tryz.results47, go_sem, t0, t1, t2, t3, t4]
set_option maxRecDepth 100000 in
theorem lconfig_any (s : ByteArray) (rd : Int) (w : World) : Calls Tryz.prog 19 #[.string s, .int .i64 rd] w fun e w' => e = .returned (Cf.v ⟨200, 1, 2, rd, 1, 1, 1, s⟩) ∧ Ch (fun _ => False) w w' := by
  go_enter Tryz.func19, Tryz.ntmps19
  go_wp2_with fail
  refine bodyPost_ret (v := Cf.v ⟨200, 1, 2, rd, 1, 1, 1, s⟩) ?_ rfl ⟨rfl, below_ch ?_⟩
  · simp [results, Tryz.results19, go_sem, Cf.v]
  · repeat (refine Below.setCell ?_ (by simp) _)
    exact (Below.refl _ _).alloc (Nat.le_refl _) _
def EvR.mk1 (x : EvR) (i : Nat) : Mk := ⟨(i : Int) + 1, lk x.mz i % ((x.s.size : Int) + 1), lk x.mz i % 2⟩
def EvR.mks (x : EvR) : List Mk := (List.range x.mn).map x.mk1
def EvR.v (x : EvR) : Value := .agg #[.int .u8 x.d, .int .u8 x.op.k, .int .i64 x.op.sl, .int .i64 x.op.at', .int .i64 x.op.n, .int .u32 x.op.id, .int .u8 x.op.g, .string x.op.s, .string x.s, .slice x.ma x.mn x.mc]
theorem mks_take (x : EvR) (k : Nat) (h : k < x.mn) : x.mks.take (k + 1) = x.mks.take k ++ [x.mk1 k] := by
  have hl : k < x.mks.length := by simp [EvR.mks, h]
  rw [List.take_succ_eq_append_getElem hl]
  simp [EvR.mks]
theorem mk_one1 (x : Mk) : ∀ u ∈ x.cells, u.oneCell' = true := by
  intro u hu
  simp [Mk.cells] at hu
  rcases hu with rfl | rfl | rfl <;> rfl
set_option maxRecDepth 100000 in
set_option maxHeartbeats 1000000 in
theorem lmarks_any (x : EvR) (w : World) (hx : x.ok w) (hm : x.mn ≤ 4) (hs : x.s.size ≤ 100000) :
    Calls Tryz.prog 41 #[x.v] w fun e w' => ∃ v, e = .returned v ∧ w'.ownsRow w.heap.size 160 3 v x.mn (mkCells x.mks) ∧ Ch (fun _ => False) w w' := by
  obtain ⟨i0, hi, hz0, hz1, hz2⟩ := info_parts infoMk
  have hml := hx.ml
  have hmz := hid hx.mz
  have hmc := hid hx.mcell
  have HXL := hid hml
  clear hx hml
  simp only [EvR.v]
  go_enter Tryz.func41, Tryz.ntmps41
  go_wp2_with fail
  refine at_world fun W1 hW1 => ?_
  have C1 := hid (show Ch (fun _ => False) w W1 from by rw [hW1]; exact (Ch.refl _ w).alloc _)
  have T1 := hid (show Blk W1 w.heap.size 29 x.cells.toArray from by rw [hW1]; exact Blk.new w _ _)
  have l1 := T1.out.lt
  have hB : w.heap.size ≤ W1.heap.size := C1.out.size
  clear hW1
  go_loopw [3, 4] (fun v i W => ∃ k : Nat, k ≤ x.mn ∧ i = .int .i64 (k : Int) ∧ W.ownsRow W1.heap.size 160 3 v k (mkCells (x.mks.take k)) ∧ Ch (fun _ => False) W1 W) (fun _ i _ => x.mn - (intOf i).toNat)
  case atStart => exact ⟨0, Nat.zero_le _, rfl, World.ownsRow_nil _ _ _ _, Ch.refl _ _⟩
  case round =>
    obtain ⟨k, hk, rfl, hown, hch⟩ := hrel
    have T2 := hid (hch.blk T1.out id)
    have t0 : wr.cell? ⟨w.heap.size, 8, none⟩ = some (.string x.s) := T2.out.cell 8
    have t1 : wr.cell? ⟨w.heap.size, 9, none⟩ = some (.slice x.ma x.mn x.mc) := T2.out.cell 9
    have hcs : (x.s.size : Int) + 1 ≠ 0 := by omega
    by_cases hlt : k < x.mn
    · obtain ⟨b, off, hma, hbl, hcell⟩ := hmc.out (by omega)
      have c0 : wr.cell? ⟨b, off + k, none⟩ = some (.int .u8 (lk x.mz k)) := (hch.cell (p := ⟨b, _, none⟩) (Nat.lt_of_lt_of_le hbl C1.out.size) id).trans ((C1.out.cell (p := ⟨b, _, none⟩) hbl id).trans (hcell k hlt))
      have hz : 0 ≤ lk x.mz k ∧ lk x.mz k < 256 := hmz.out _ (by rw [lk, List.getD_eq_getElem?_getD, List.getElem?_eq_getElem (by rw [HXL.out]; exact hlt)]; exact List.getElem_mem _)
      rw [hma] at t1
      clear hma
      have x1 : decide (k < x.mn) = true := decide_eq_true hlt
      have x2 : decide ((k : Int) < (x.mn : Int)) = true := decide_eq_true (by omega)
      have x3 : decide ((k : Int) < 4) = true := decide_eq_true (by omega)
      obtain ⟨A0, cap0, hv0, _⟩ := own_slice hown
      subst hv0
      have HOW := hid hown
      have HCH := hid hch
      clear hown hch
      have hw32 : IntKind.u32.wrap ((k : Int) + 1) = (k : Int) + 1 := by simp [IntKind.wrap, IntKind.signed, IntKind.bits]; omega
      go_wp2_with fail
      refine Mix.wp_region_mix (fun _ => True) (fun i => ([1, 0, 0, 0, 0, 0, 0, 0, 0, 0, 0, 0, 0, 0, 0, 0, 0, 0, 0, 0, 0, 0, 2, 2, 0] : List Nat).getD i 0) [0, 1, 2, 3, 4, 5, 6, 7, 8, 9, 10, 11, 12, 13, 14, 15, 16, 17, 18, 19, 20, 21, 22, 23, 24] (by kernel_rfl) (by kernel_rfl) ?_
      repeat (first | (refine Mix.mix_q (by simp only [List.getElem?_toArray, List.getElem?_cons_zero, List.getElem?_cons_succ]; exact rfl) rfl ?_; go_big_quiet_step (fail); refine wpQuiet_nil ?_) | (refine Mix.mix_p (by simp only [List.getElem?_toArray, List.getElem?_cons_zero, List.getElem?_cons_succ]; exact rfl) rfl rfl ?_; go_big_quiet_step (fail); refine wpQuiet_nil ?_) | (refine Mix.mix_s (by simp only [List.getElem?_toArray, List.getElem?_cons_zero, List.getElem?_cons_succ]; exact rfl) rfl rfl ?_; go_big_quiet_step (fail); refine wpQuiet_nil ?_))
      refine Mix.mix_e (by simp only [List.getElem?_toArray, List.getElem?_cons_zero, List.getElem?_cons_succ]; exact rfl) rfl fun V1 hV1 => ?_
      obtain ⟨k1, rfl⟩ := hV1
      go_wp2_with fail
      refine Mix.mix_world fun V2 hV2 => ?_
      have c2 : Ch (fun _ => False) W1 V2 := by rw [hV2]; exact (HCH.out.drewN k1).alloc _
      have CC2 := hid c2
      have O2 := hid (((Ch.refl (fun _ => False) wr).drewN k1 |>.alloc (.cells (x.mk1 k).cells.toArray 160)).own HOW.out (fun _ _ e => e))
      have B2 := hid (show Blk V2 wr.heap.size 160 (x.mk1 k).cells.toArray from by rw [hV2]; exact Blk.new (wr.drewN k1) _ _)
      have e2 : V2 = (wr.drewN k1).alloc (.cells (x.mk1 k).cells.toArray 160) := hV2
      rw [← e2] at O2
      clear hV2 e2 c2
      have HTK := hid (mks_take x k hlt)
      refine Mix.mix_e (by simp only [List.getElem?_toArray, List.getElem?_cons_zero, List.getElem?_cons_succ]; exact rfl) rfl fun V3 hV3 => ?_
      obtain ⟨k3, rfl⟩ := hV3
      refine wpList_app _ rfl (.tmp 16) (.tmp 38) 47 rfl W1.heap.size 160 i0 _ 3 24 Tryz.underlying47 hi hz0 hz1 hz2 rfl (by decide) _ _ _ rfl O2.out ⟨wr.heap.size, 0, none⟩ 1 1 (x.mk1 k).cells rfl rfl ?a1 ?a2 (by decide) ?a3 ?a4 ?a5 ?_
      case a1 => intro j u hu; rw [addr_add0]; exact (Blk.cell (B2.out.drewN k3) j).trans (by simpa using hu)
      case a2 => exact mk_one1 _
      case a3 => unfold maxLen; omega
      case a4 => omega
      case a5 => exact CC2.out.size
      intro v' w3 hown' hgrow hfresh
      have c3 : Ch (fun _ => False) W1 w3 := (CC2.out.drewN k3).grown hgrow (fun g hg hl => by
        have := (HOW.out.lt g hg).1
        omega)
      have C3 := hid c3
      have O3 := hid hown'
      clear c3 hown' hgrow hfresh
      go_wp2_with fail
      repeat (first | (refine Mix.mix_q (by simp only [List.getElem?_toArray, List.getElem?_cons_zero, List.getElem?_cons_succ]; exact rfl) rfl ?_; go_big_quiet_step (fail); refine wpQuiet_nil ?_) | (refine Mix.mix_p (by simp only [List.getElem?_toArray, List.getElem?_cons_zero, List.getElem?_cons_succ]; exact rfl) rfl rfl ?_; go_big_quiet_step (fail); refine wpQuiet_nil ?_) | (refine Mix.mix_s (by simp only [List.getElem?_toArray, List.getElem?_cons_zero, List.getElem?_cons_succ]; exact rfl) rfl rfl ?_; go_big_quiet_step (fail); refine wpQuiet_nil ?_))
      intro k4
      go_wp2_with fail
      go_roundw
      case rel => exact ⟨k + 1, by omega, by go_num, by rw [HTK.out, mkCells_snoc]; exact O3.out, C3.out.drewN k4⟩
      case measure => simp [intOf]; omega
    · obtain rfl : k = x.mn := by omega
      have x1 : decide (x.mn < x.mn) = false := decide_eq_false (by omega)
      have x2 : decide ((x.mn : Int) < (x.mn : Int)) = false := decide_eq_false (by omega)
      have HOW := hid hown
      have HCH := hid hch
      clear hown hch
      go_wp2_with fail
      go_ret
      refine ⟨_, rfl, ?_, C1.out.trans HCH.out (fun _ _ h => h)⟩
      have := own_mono HOW.out hB
      rwa [List.take_of_length_le (by simp [EvR.mks])] at this
end Go.Proofs.YtjcdknhejcbpiaaGreat
