/- Texts XRopeB, XRunesC, XRunesD, XRunesE, XRunesF, XPlaceA, XChA, XChB, XPlaceB, XConsPlain, XRefB, XBothA for XChE, by trim.py. -/
import Derived.Test.YtefpabicgefciaaGreatDb21
import Derived.Test.YtefpabicgefciaaGreatDb14
import Derived.Test.YtefpabicgefciaaGreatDb01
import Derived.Test.YtefpabicgefciaaGreatDb05
import Derived.Test.YtefpabicgefciaaGreatDb11
import Derived.Test.YtefpabicgefciaaGreatDb06
namespace Go.Proofs.YtefpabicgefciaaGreat
open Go.RowKit
set_option linter.unusedVariables false
set_option linter.unusedSimpArgs false
/-- The cells of a root. -/
structure Rt where
  a : Int
  h : Int
  b : Int
  r : Int
  l : Int
def Rt.v (x : Rt) : Value := .agg #[.int .u64 x.a, .int .i64 x.h, .int .i64 x.b, .int .i64 x.r, .int .i64 x.l]
/-- The root, the errno and the nodes of a text in a new arena of N slots. -/
def RopeRes (N : Nat) (s : ByteArray) (x : Rt) (en : Int) (ns : List An) : Prop :=
  (s.size = 0 ∧ x = ⟨0, 0, 0, 0, 0⟩ ∧ en = 0 ∧ ns = []) ∨
  (0 < s.size ∧ ∃ t, buildT s = [t] ∧ t.good ∧ t.bytes = s.size ∧
    ((t.cnt ≤ N ∧ x = ⟨hdl (t.cnt - 1), t.ht, t.meas.b, t.meas.r, t.meas.l⟩ ∧ en = 0 ∧ ns.length = t.cnt ∧ (∀ (j : Nat) (y : An), ns[j]? = some y → ∃ sp, (T.post 0 t)[j]? = some sp ∧ y.x = sp.nd 0 (T.post 0 t))) ∨
     (N < t.cnt ∧ x = ⟨0, 0, 0, 0, 0⟩ ∧ en = 6 ∧ ns = [])))
def RopeMem (A : ArA) (s : ByteArray) (x : Rt) (en : Int) (w w' : World) : Prop := ∃ ns, RopeRes A.n s x en ns ∧ ArM A w' ns 0 ∧ ArP ns ∧ Ch A.mut w w' ∧ ∀ y ∈ ns, ∀ b, y.kb b → w.heap.size ≤ b
theorem rope_mem (A : ArA) (s : ByteArray) (w : World) (h : ArM A w [] 0) (hs : s.size ≤ 65536) (hn : A.n ≤ 16384) : Calls Tryz.prog 62 #[.pointer (some ⟨A.ab, 0, none⟩), .string s] w fun e w' => ∃ x en, e = .returned (.tuple #[Rt.v x, .int .i64 en]) ∧ RopeMem A s x en w w' := by
  refine (rope_any A s w h hs hn).mono ?_
  rintro e w' (⟨h0, rfl, hc⟩ | ⟨h0, t, ht, hg, hb, ⟨h1, ys, rfl, hM, hP, hl, hy, hc, hk⟩ | ⟨h1, rfl, hc⟩⟩)
  · exact ⟨⟨0, 0, 0, 0, 0⟩, 0, rfl, [], .inl ⟨h0, rfl, rfl, rfl⟩, h.keep0 hc, ArP.nil, hc.mono (fun _ _ e => e.elim), fun y hy => by simp at hy⟩
  · refine ⟨⟨hdl (t.cnt - 1), t.ht, t.meas.b, t.meas.r, t.meas.l⟩, 0, by simp [Rt.v, T.rv], ys, .inr ⟨h0, t, ht, hg, hb, .inl ⟨h1, rfl, rfl, hl, fun j y hj => ?_⟩⟩, hM, hP, hc, hk⟩
    obtain ⟨sp, a, b⟩ := hy j y hj
    exact ⟨sp, a, b⟩
  · exact ⟨⟨0, 0, 0, 0, 0⟩, 6, rfl, [], .inr ⟨h0, t, ht, hg, hb, .inr ⟨h1, rfl, rfl, rfl⟩⟩, h.keep0 hc, ArP.nil, hc.mono (fun _ _ e => e.elim), fun y hy => by simp at hy⟩
theorem RopeMem.keep {A : ArA} {s : ByteArray} {x : Rt} {en : Int} {w w1 w2 : World} {fp : Nat → Prop} (h : RopeMem A s x en w w1) (c : Ch fp w1 w2) (hf : ∀ k, k < w1.heap.size → A.foot [] k → ¬ fp k) (hk : ∀ k, fp k → k < w.heap.size ∨ w1.heap.size ≤ k) (hn : ∀ k, k < w.heap.size → ¬ fp k) : RopeMem A s x en w w2 := by
  obtain ⟨ns, h1, h2, h3, h4, h5⟩ := h
  refine ⟨ns, h1, h2.keep c (fun k hk' hf' e => ?_), h3, h4.trans c (fun i hi e => absurd e (hn i hi)), h5⟩
  rcases hf' with hf' | hf' | hf' | ⟨y, hy, hf'⟩
  · exact hf k hk' (.inl hf') e
  · exact hf k hk' (.inr (.inl hf')) e
  · exact hf k hk' (.inr (.inr (.inl hf'))) e
  · have := h5 y hy k hf'
    rcases hk k e with e | e <;> omega
theorem RopeMem.shift {A : ArA} {s : ByteArray} {x : Rt} {en : Int} {w0 w w1 w2 : World} {fp : Nat → Prop} (h : RopeMem A s x en w w1) (c0 : Ch (fun _ => False) w0 w) (c : Ch fp w1 w2) (hf : ∀ k, k < w1.heap.size → A.foot [] k → ¬ fp k) (hk : ∀ k, fp k → k < w.heap.size ∨ w1.heap.size ≤ k) (hn : ∀ k, k < w0.heap.size → ¬ fp k) : RopeMem A s x en w0 w2 := by
  obtain ⟨ns, h1, h2, h3, h4, h5⟩ := h
  refine ⟨ns, h1, h2.keep c (fun k hk' hf' e => ?_), h3, ((c0.mono (fun _ _ e => e.elim)).trans h4 (fun _ _ e => e)).trans c (fun i hi e => absurd e (hn i hi)), fun y hy b hb => Nat.le_trans c0.size (h5 y hy b hb)⟩
  rcases hf' with hf' | hf' | hf' | ⟨y, hy, hf'⟩
  · exact hf k hk' (.inl hf') e
  · exact hf k hk' (.inr (.inl hf')) e
  · exact hf k hk' (.inr (.inr (.inl hf'))) e
  · have := h5 y hy k hf'
    rcases hk k e with e | e <;> omega
theorem RopeMem.ch {A : ArA} {s : ByteArray} {x : Rt} {en : Int} {w w1 : World} (h : RopeMem A s x en w w1) : Ch A.mut w w1 := by
  obtain ⟨ns, h1, h2, h3, h4, h5⟩ := h
  exact h4
end Go.Proofs.YtefpabicgefciaaGreat
namespace Go.Proofs.YtefpabicgefciaaGreat
open Go.RowKit
set_option linter.unusedVariables false
set_option maxRecDepth 100000
end Go.Proofs.YtefpabicgefciaaGreat
namespace Go.Proofs.YtefpabicgefciaaGreat
open Go.RowKit
set_option linter.unusedVariables false
end Go.Proofs.YtefpabicgefciaaGreat
namespace Go.Proofs.YtefpabicgefciaaGreat
open Go.RowKit
set_option linter.unusedVariables false
set_option linter.unusedSimpArgs false
def dlen (l : List Int) : Int := ann (lk l 0)
def dval (l : List Int) : Int := acc l (dlen l) (dlen l).toNat
/-- Do the first bytes encode a rune? -/
def dgood (l : List Int) : Prop := 0 < l.length ∧ 1 ≤ dlen l ∧ dlen l ≤ l.length ∧ contTo l (dlen l).toNat ∧ rlen (dval l) = dlen l
theorem contTo1 (l : List Int) : contTo l 1 := fun j h1 h2 => by omega
end Go.Proofs.YtefpabicgefciaaGreat
namespace Go.Proofs.YtefpabicgefciaaGreat
open Go.RowKit
set_option linter.unusedVariables false
set_option linter.unusedSimpArgs false
/-- What Decode returns. -/
def DecAny (l : List Int) (w : World) (e : Ending) (w' : World) : Prop :=
  Below w.heap.size w w' ∧ (dgood l ∧ e = .returned (.tuple #[.int .i64 (dval l), .int .i64 (dlen l), .int .i64 0]) ∨ ¬ dgood l ∧ e = .returned (.tuple #[.int .i64 0, .int .i64 0, .int .i64 (if l.length = 0 then 3 else 11)]))
theorem size_nil {s : ByteArray} (h : s.size = 0) : s.toList.isEmpty = true := by
  rw [ByteArray.toList_eq]
  have : s.data.toList.length = 0 := by simpa using h
  rw [List.eq_nil_of_length_eq_zero this]; rfl
theorem dgood_nil {l : List Int} (h : l.length = 0) : ¬ dgood l := fun hg => by have := hg.1; omega
theorem dec_nil (s : ByteArray) (w : World) (hs : s.size = 0) : Calls Tryz.prog 173 #[.string s] w fun e w' => e = .returned (.tuple #[.int .i64 0, .int .i64 0, .int .i64 3]) ∧ w = w' := by
  have he := size_nil hs
  clear hs
  go_enter Tryz.func173, Tryz.ntmps173
  go_wp2_with fail
  go_ret3
  exact ⟨rfl, rfl⟩
set_option maxHeartbeats 400000 in
theorem dec_short (s : ByteArray) (w : World) (hs : 0 < s.size) (hm : s.size ≤ 1000000) (h : ann (lk (bs s) 0) = 0 ∨ (s.size : Int) < ann (lk (bs s) 0)) : Calls Tryz.prog 173 #[.string s] w fun e w' => e = .returned (.tuple #[.int .i64 0, .int .i64 0, .int .i64 11]) ∧ w = w' := by
  have he := size_data hs
  have h0 := bs_get s 0 hs
  go_enter Tryz.func173, Tryz.ntmps173
  go_wp2_with fail
  refine (ann_any _ _).mono ?_
  rintro e w0 ⟨rfl, rfl⟩
  rcases h with h | h
  · rw [h]
    go_wp2_with fail
    go_ret3
    exact ⟨rfl, rfl⟩
  · have d0 : (ann (lk (bs s) 0) == 0) = false := by rw [beq_eq_false_iff_ne]; omega
    have d1 : decide ((s.size : Int) < ann (lk (bs s) 0)) = true := by simpa using h
    go_wp2_with fail
    go_ret3
    exact ⟨rfl, rfl⟩
theorem decP_any {l : List Int} {n : Nat} {ni : Int} {w w' : World} {e : Ending} (hi : ni = n) (hn : dlen l = ni) (h0 : 0 < l.length) (h1 : 1 ≤ n) (h2 : n ≤ l.length) (h : DecP l n ni w e w') : DecAny l w e w' := by
  obtain ⟨rfl, h⟩ := h
  refine ⟨Below.refl _ _, ?_⟩
  have hg : dgood l ↔ contTo l n ∧ rlen (acc l ni n) = ni := by
    unfold dgood dval
    rw [hn, show ni.toNat = n by omega]
    constructor
    · exact fun h => h.2.2.2
    · exact fun h => ⟨h0, by omega, by omega, h⟩
  rcases h with ⟨h, rfl⟩ | ⟨h, rfl⟩
  · refine .inl ⟨hg.2 h, ?_⟩
    unfold dval
    rw [hn, show ni.toNat = n by omega]
  · refine .inr ⟨fun h' => h (hg.1 h'), ?_⟩
    rw [if_neg (by omega)]
theorem dec_any (s : ByteArray) (w : World) (hm : s.size ≤ 1000000) : Calls Tryz.prog 173 #[.string s] w (DecAny (bs s) w) := by
  have hl := bs_length s
  by_cases h0 : s.size = 0
  · exact (dec_nil s w h0).mono fun e w' ⟨he, hw⟩ => hw ▸ ⟨Below.refl _ _, .inr ⟨dgood_nil (by omega), by rw [he, if_pos (by omega)]⟩⟩
  · by_cases hn : ann (lk (bs s) 0) = 0 ∨ (s.size : Int) < ann (lk (bs s) 0)
    · refine (dec_short s w (by omega) hm hn).mono fun e w' ⟨he, hw⟩ => hw ▸ ⟨Below.refl _ _, .inr ⟨fun hg => ?_, by rw [he, if_neg (by omega)]⟩⟩
      have h1 := hg.2.1
      have h2 := hg.2.2.1
      unfold dlen at h1 h2
      omega
    · rcases ann_cases (lk (bs s) 0) with h | h | h | h | h
      · exact absurd (.inl h) hn
      · exact (dec1_any s w (by omega) hm h).mono fun e w' hp => decP_any (by rfl) h (by omega) (by omega) (by omega) hp
      · exact (dec2_any s w (by omega) hm h).mono fun e w' hp => decP_any (by rfl) h (by omega) (by omega) (by omega) hp
      · exact (dec3_any s w (by omega) hm h).mono fun e w' hp => decP_any (by rfl) h (by omega) (by omega) (by omega) hp
      · exact (dec4_any s w (by omega) hm h).mono fun e w' hp => decP_any (by rfl) h (by omega) (by omega) (by omega) hp
/-- Valid. -/
inductive Vd : List Int → Prop
  | nil {l : List Int} : l.length = 0 → Vd l
  | step {l : List Int} : dgood l → Vd (l.drop (dlen l).toNat) → Vd l
theorem vd_step {l : List Int} (h : dgood l) : Vd l ↔ Vd (l.drop (dlen l).toNat) := by
  constructor
  · intro hv
    cases hv with
    | nil h0 => exact absurd h.1 (by omega)
    | step _ hv => exact hv
  · exact Vd.step h
theorem vd_not {l : List Int} (h : ¬ dgood l) (h0 : 0 < l.length) : ¬ Vd l := fun hv => by
  cases hv with
  | nil h1 => omega
  | step hg _ => exact h hg
open Classical in
noncomputable def vdB (l : List Int) : Bool := decide (Vd l)
open Classical in
theorem vdB_true {l : List Int} (h : Vd l) : vdB l = true := decide_eq_true h
open Classical in
theorem vdB_false {l : List Int} (h : ¬ Vd l) : vdB l = false := decide_eq_false h
def strSize : Value → Nat
  | .string s => s.size
  | _ => 0
theorem bs_drop (s : ByteArray) (n : Nat) : bs (s.extract n s.size) = (bs s).drop n := by
  unfold bs
  rw [← List.map_drop]
  congr 1
  simp only [ByteArray.data_extract, Array.toList_extract, List.extract_eq_take_drop]
  rw [List.take_of_length_le (by simp)]
set_option maxHeartbeats 400000 in
theorem valid_any (s : ByteArray) (w : World) (hm : s.size ≤ 1000000) : Calls Tryz.prog 152 #[.string s] w fun e w' => e = .returned (.bool (vdB (bs s))) ∧ Below w.heap.size w w' := by
  go_enter Tryz.func152, Tryz.ntmps152
  go_wp2_with fail
  go_loopw [0] (fun v wr => ∃ t : ByteArray, v = .string t ∧ t.size ≤ s.size ∧ (Vd (bs s) ↔ Vd (bs t)) ∧ Below w.heap.size w wr) (fun v _ => strSize v)
  case atStart => exact ⟨s, rfl, Nat.le_refl _, Iff.rfl, Below.refl _ _⟩
  case round =>
    obtain ⟨t, rfl, hts, hv, hbel⟩ := hrel
    have Hv := hid hv
    clear hv
    by_cases h0 : t.size = 0
    · have he := size_nil h0
      go_wp2_with fail
      go_ret
      exact ⟨by rw [vdB_true (Hv.out.2 (Vd.nil (by rw [bs_length]; exact h0)))]; rfl, hbel⟩
    · have he := size_data (s := t) (by omega)
      go_wp2_with fail
      refine (dec_any t _ (by omega)).mono ?_
      rintro e w1 ⟨hb1, ⟨hg, rfl⟩ | ⟨hg, rfl⟩⟩
      · obtain ⟨n, hn⟩ := Int.eq_ofNat_of_zero_le (by have := hg.2.1; omega : 0 ≤ dlen (bs t))
        have hn1 := hg.2.1
        have hn2 := hg.2.2.1
        rw [bs_length] at hn2
        have hn3 : 1 ≤ n ∧ n ≤ t.size := by omega
        obtain ⟨g1, g2⟩ := hn3
        have Hg := hid hg
        have Hn := hid hn
        rw [hn]
        clear hg hn hn1 hn2
        go_wp2_with fail
        go_roundw
        case rel =>
          refine ⟨t.extract n t.size, rfl, ?_, ?_, hbel.trans (hb1.mono hbel.size)⟩
          · simp [ByteArray.size_extract]; omega
          · rw [Hv.out, vd_step Hg.out, Hn.out, bs_drop]; rfl
        case measure => simp [strSize, ByteArray.size_extract]; omega
      · have h3 : (if (bs t).length = 0 then (3 : Int) else 11) = 11 := by rw [if_neg (by rw [bs_length]; exact h0)]
        rw [h3]
        go_wp2_with fail
        go_ret
        exact ⟨by rw [vdB_false (fun h => vd_not hg (by rw [bs_length]; omega) (Hv.out.1 h))]; rfl, hbel.trans (hb1.mono hbel.size)⟩
end Go.Proofs.YtefpabicgefciaaGreat
namespace Go.Proofs.YtefpabicgefciaaGreat
open Go.RowKit
set_option linter.unusedVariables false
set_option linter.unusedSimpArgs false
/-- A configuration. -/
structure Cf where
  sl : Int
  ge : Int
  cl : Int
  re : Int
  qu : Int
  ba : Int
  fe : Int
  tx : ByteArray
def Cf.v (c : Cf) : Value := .agg #[.int .i64 c.sl, .int .u64 c.ge, .int .i64 c.cl, .int .i64 c.re, .int .i64 c.qu, .int .i64 c.ba, .int .i64 c.fe, .string c.tx]
def Cf.nums (c : Cf) : Prop := (1 ≤ c.sl ∧ c.sl ≤ 16384) ∧ (1 ≤ c.ge ∧ c.ge ≤ 4294967295) ∧ (0 ≤ c.cl ∧ c.cl ≤ 8) ∧ (0 ≤ c.re ∧ c.re ≤ 8) ∧ (1 ≤ c.qu ∧ c.qu ≤ 64) ∧ (1 ≤ c.ba ∧ c.ba ≤ 16) ∧ (1 ≤ c.fe ∧ c.fe ≤ 64)
open Classical in
/-- The error of a configuration. -/
noncomputable def ckE (c : Cf) : Int := if ¬ c.nums then 2 else if 65536 < c.tx.size then 5 else if vdB (bs c.tx) = false then 11 else 0
def winB (n lo hi : Int) : Bool := decide (lo ≤ n ∧ n ≤ hi)
theorem cwithin_any (n lo hi : Int) (w : World) : Calls Tryz.prog 151 #[.int .i64 n, .int .i64 lo, .int .i64 hi] w fun e w' => e = .returned (.bool (winB n lo hi)) ∧ w = w' := by
  by_cases h1 : lo ≤ n
  · by_cases h2 : n ≤ hi
    · rw [show winB n lo hi = true by simp [winB, h1, h2]]
      go_enter Tryz.func151, Tryz.ntmps151
      go_wp2_with fail
      go_ret
      exact ⟨rfl, rfl⟩
    · rw [show winB n lo hi = false by simp [winB, h2]]
      go_enter Tryz.func151, Tryz.ntmps151
      go_wp2_with fail
      go_ret
      exact ⟨rfl, rfl⟩
  · rw [show winB n lo hi = false by simp [winB, h1]]
    go_enter Tryz.func151, Tryz.ntmps151
    go_wp2_with fail
    go_ret
    exact ⟨rfl, rfl⟩
theorem check_f00 (sl ge cl re qu ba fe : Int) (tx : ByteArray) (w : World) (hsl : winB sl 1 16384 = false) : Calls Tryz.prog 104 #[.agg #[.int .i64 sl, .int .u64 ge, .int .i64 cl, .int .i64 re, .int .i64 qu, .int .i64 ba, .int .i64 fe, .string tx]] w (fun e w' => e = .returned (.int .i64 2) ∧ Below w.heap.size w w') := by
  go_enter Tryz.func104, Tryz.ntmps104
  go_wp2_with (go_at_call 151; refine (cwithin_any _ _ _ _).mono ?_; rintro e w' ⟨rfl, rfl⟩)
  go_ret
  exact ⟨rfl, (Below.refl _ _).alloc (Nat.le_refl _) _⟩
theorem check_f10 (sl ge cl re qu ba fe : Int) (tx : ByteArray) (w : World) (hsl : winB sl 1 16384 = true) (hge : decide (ge < 1) = true) : Calls Tryz.prog 104 #[.agg #[.int .i64 sl, .int .u64 ge, .int .i64 cl, .int .i64 re, .int .i64 qu, .int .i64 ba, .int .i64 fe, .string tx]] w (fun e w' => e = .returned (.int .i64 2) ∧ Below w.heap.size w w') := by
  go_enter Tryz.func104, Tryz.ntmps104
  go_wp2_with (go_at_call 151; refine (cwithin_any _ _ _ _).mono ?_; rintro e w' ⟨rfl, rfl⟩)
  go_ret
  exact ⟨rfl, (Below.refl _ _).alloc (Nat.le_refl _) _⟩
theorem check_f11 (sl ge cl re qu ba fe : Int) (tx : ByteArray) (w : World) (hsl : winB sl 1 16384 = true) (hge : decide (ge < 1) = false) (kge : decide ((4294967295 : Int) < ge) = true) : Calls Tryz.prog 104 #[.agg #[.int .i64 sl, .int .u64 ge, .int .i64 cl, .int .i64 re, .int .i64 qu, .int .i64 ba, .int .i64 fe, .string tx]] w (fun e w' => e = .returned (.int .i64 2) ∧ Below w.heap.size w w') := by
  go_enter Tryz.func104, Tryz.ntmps104
  go_wp2_with (go_at_call 151; refine (cwithin_any _ _ _ _).mono ?_; rintro e w' ⟨rfl, rfl⟩)
  go_ret
  exact ⟨rfl, (Below.refl _ _).alloc (Nat.le_refl _) _⟩
theorem check_f20 (sl ge cl re qu ba fe : Int) (tx : ByteArray) (w : World) (hsl : winB sl 1 16384 = true) (hge : decide (ge < 1) = false) (kge : decide ((4294967295 : Int) < ge) = false) (hcl : winB cl 0 8 = false) : Calls Tryz.prog 104 #[.agg #[.int .i64 sl, .int .u64 ge, .int .i64 cl, .int .i64 re, .int .i64 qu, .int .i64 ba, .int .i64 fe, .string tx]] w (fun e w' => e = .returned (.int .i64 2) ∧ Below w.heap.size w w') := by
  go_enter Tryz.func104, Tryz.ntmps104
  go_wp2_with (go_at_call 151; refine (cwithin_any _ _ _ _).mono ?_; rintro e w' ⟨rfl, rfl⟩)
  go_ret
  exact ⟨rfl, (Below.refl _ _).alloc (Nat.le_refl _) _⟩
theorem check_f30 (sl ge cl re qu ba fe : Int) (tx : ByteArray) (w : World) (hsl : winB sl 1 16384 = true) (hge : decide (ge < 1) = false) (kge : decide ((4294967295 : Int) < ge) = false) (hcl : winB cl 0 8 = true) (hre : winB re 0 8 = false) : Calls Tryz.prog 104 #[.agg #[.int .i64 sl, .int .u64 ge, .int .i64 cl, .int .i64 re, .int .i64 qu, .int .i64 ba, .int .i64 fe, .string tx]] w (fun e w' => e = .returned (.int .i64 2) ∧ Below w.heap.size w w') := by
  go_enter Tryz.func104, Tryz.ntmps104
  go_wp2_with (go_at_call 151; refine (cwithin_any _ _ _ _).mono ?_; rintro e w' ⟨rfl, rfl⟩)
  go_ret
  exact ⟨rfl, (Below.refl _ _).alloc (Nat.le_refl _) _⟩
theorem check_f40 (sl ge cl re qu ba fe : Int) (tx : ByteArray) (w : World) (hsl : winB sl 1 16384 = true) (hge : decide (ge < 1) = false) (kge : decide ((4294967295 : Int) < ge) = false) (hcl : winB cl 0 8 = true) (hre : winB re 0 8 = true) (hqu : winB qu 1 64 = false) : Calls Tryz.prog 104 #[.agg #[.int .i64 sl, .int .u64 ge, .int .i64 cl, .int .i64 re, .int .i64 qu, .int .i64 ba, .int .i64 fe, .string tx]] w (fun e w' => e = .returned (.int .i64 2) ∧ Below w.heap.size w w') := by
  go_enter Tryz.func104, Tryz.ntmps104
  go_wp2_with (go_at_call 151; refine (cwithin_any _ _ _ _).mono ?_; rintro e w' ⟨rfl, rfl⟩)
  go_ret
  exact ⟨rfl, (Below.refl _ _).alloc (Nat.le_refl _) _⟩
theorem check_f50 (sl ge cl re qu ba fe : Int) (tx : ByteArray) (w : World) (hsl : winB sl 1 16384 = true) (hge : decide (ge < 1) = false) (kge : decide ((4294967295 : Int) < ge) = false) (hcl : winB cl 0 8 = true) (hre : winB re 0 8 = true) (hqu : winB qu 1 64 = true) (hba : winB ba 1 16 = false) : Calls Tryz.prog 104 #[.agg #[.int .i64 sl, .int .u64 ge, .int .i64 cl, .int .i64 re, .int .i64 qu, .int .i64 ba, .int .i64 fe, .string tx]] w (fun e w' => e = .returned (.int .i64 2) ∧ Below w.heap.size w w') := by
  go_enter Tryz.func104, Tryz.ntmps104
  go_wp2_with (go_at_call 151; refine (cwithin_any _ _ _ _).mono ?_; rintro e w' ⟨rfl, rfl⟩)
  go_ret
  exact ⟨rfl, (Below.refl _ _).alloc (Nat.le_refl _) _⟩
theorem check_f60 (sl ge cl re qu ba fe : Int) (tx : ByteArray) (w : World) (hsl : winB sl 1 16384 = true) (hge : decide (ge < 1) = false) (kge : decide ((4294967295 : Int) < ge) = false) (hcl : winB cl 0 8 = true) (hre : winB re 0 8 = true) (hqu : winB qu 1 64 = true) (hba : winB ba 1 16 = true) (hfe : winB fe 1 64 = false) : Calls Tryz.prog 104 #[.agg #[.int .i64 sl, .int .u64 ge, .int .i64 cl, .int .i64 re, .int .i64 qu, .int .i64 ba, .int .i64 fe, .string tx]] w (fun e w' => e = .returned (.int .i64 2) ∧ Below w.heap.size w w') := by
  go_enter Tryz.func104, Tryz.ntmps104
  go_wp2_with (go_at_call 151; refine (cwithin_any _ _ _ _).mono ?_; rintro e w' ⟨rfl, rfl⟩)
  go_ret
  exact ⟨rfl, (Below.refl _ _).alloc (Nat.le_refl _) _⟩
theorem check_long (sl ge cl re qu ba fe : Int) (tx : ByteArray) (w : World) (hsl : winB sl 1 16384 = true) (hge : decide (ge < 1) = false) (kge : decide ((4294967295 : Int) < ge) = false) (hcl : winB cl 0 8 = true) (hre : winB re 0 8 = true) (hqu : winB qu 1 64 = true) (hba : winB ba 1 16 = true) (hfe : winB fe 1 64 = true) (hz : 65536 < tx.size) : Calls Tryz.prog 104 #[.agg #[.int .i64 sl, .int .u64 ge, .int .i64 cl, .int .i64 re, .int .i64 qu, .int .i64 ba, .int .i64 fe, .string tx]] w (fun e w' => e = .returned (.int .i64 5) ∧ Below w.heap.size w w') := by
  go_enter Tryz.func104, Tryz.ntmps104
  go_wp2_with (go_at_call 151; refine (cwithin_any _ _ _ _).mono ?_; rintro e w' ⟨rfl, rfl⟩)
  go_ret
  exact ⟨rfl, (Below.refl _ _).alloc (Nat.le_refl _) _⟩
theorem check_text_false (sl ge cl re qu ba fe : Int) (tx : ByteArray) (w : World) (hsl : winB sl 1 16384 = true) (hge : decide (ge < 1) = false) (kge : decide ((4294967295 : Int) < ge) = false) (hcl : winB cl 0 8 = true) (hre : winB re 0 8 = true) (hqu : winB qu 1 64 = true) (hba : winB ba 1 16 = true) (hfe : winB fe 1 64 = true) (hz : tx.size ≤ 65536) (hv : vdB (bs tx) = false) : Calls Tryz.prog 104 #[.agg #[.int .i64 sl, .int .u64 ge, .int .i64 cl, .int .i64 re, .int .i64 qu, .int .i64 ba, .int .i64 fe, .string tx]] w (fun e w' => e = .returned (.int .i64 11) ∧ Below w.heap.size w w') := by
  go_enter Tryz.func104, Tryz.ntmps104
  go_wp2_with (go_at_call 151; refine (cwithin_any _ _ _ _).mono ?_; rintro e w' ⟨rfl, rfl⟩)
  refine (valid_any tx _ (by omega)).mono ?_
  rintro e w1 ⟨rfl, hb⟩
  have hbel : Below w.heap.size w w1 := ((Below.refl _ _).alloc (Nat.le_refl _) _).trans (hb.mono (by simp))
  go_wp2_with fail
  go_ret
  exact ⟨rfl, hbel⟩
theorem check_text_true (sl ge cl re qu ba fe : Int) (tx : ByteArray) (w : World) (hsl : winB sl 1 16384 = true) (hge : decide (ge < 1) = false) (kge : decide ((4294967295 : Int) < ge) = false) (hcl : winB cl 0 8 = true) (hre : winB re 0 8 = true) (hqu : winB qu 1 64 = true) (hba : winB ba 1 16 = true) (hfe : winB fe 1 64 = true) (hz : tx.size ≤ 65536) (hv : vdB (bs tx) = true) : Calls Tryz.prog 104 #[.agg #[.int .i64 sl, .int .u64 ge, .int .i64 cl, .int .i64 re, .int .i64 qu, .int .i64 ba, .int .i64 fe, .string tx]] w (fun e w' => e = .returned (.int .i64 0) ∧ Below w.heap.size w w') := by
  go_enter Tryz.func104, Tryz.ntmps104
  go_wp2_with (go_at_call 151; refine (cwithin_any _ _ _ _).mono ?_; rintro e w' ⟨rfl, rfl⟩)
  refine (valid_any tx _ (by omega)).mono ?_
  rintro e w1 ⟨rfl, hb⟩
  have hbel : Below w.heap.size w w1 := ((Below.refl _ _).alloc (Nat.le_refl _) _).trans (hb.mono (by simp))
  go_wp2_with fail
  go_ret
  exact ⟨rfl, hbel⟩
theorem check_all (c : Cf) (w : World) (hm : c.tx.size ≤ 1000000) : Calls Tryz.prog 104 #[c.v] w fun e w' => e = .returned (.int .i64 (ckE c)) ∧ Below w.heap.size w w' := by
  obtain ⟨sl, ge, cl, re, qu, ba, fe, tx⟩ := c
  simp only [Cf.v]
  by_cases csl : ¬ (1 ≤ sl ∧ sl ≤ 16384)
  · have hv : ckE ⟨sl, ge, cl, re, qu, ba, fe, tx⟩ = 2 := by unfold ckE Cf.nums; rw [if_pos]; simp only; omega
    rw [hv]
    exact check_f00 sl ge cl re qu ba fe tx w (by simp [winB]; omega)
  have csl := Decidable.not_not.1 csl
  have hsl : winB sl 1 16384 = true := by simp [winB]; omega
  by_cases cge : ¬ (1 ≤ ge ∧ ge ≤ 4294967295)
  · have hv : ckE ⟨sl, ge, cl, re, qu, ba, fe, tx⟩ = 2 := by unfold ckE Cf.nums; rw [if_pos]; simp only; omega
    rw [hv]
    by_cases d : ge < 1
    · exact check_f10 sl ge cl re qu ba fe tx w hsl (by simpa using d)
    · exact check_f11 sl ge cl re qu ba fe tx w hsl (by simpa using d) (by simp; omega)
  have cge := Decidable.not_not.1 cge
  have hge : decide (ge < 1) = false := by simp; omega
  have kge : decide ((4294967295 : Int) < ge) = false := by simp; omega
  by_cases ccl : ¬ (0 ≤ cl ∧ cl ≤ 8)
  · have hv : ckE ⟨sl, ge, cl, re, qu, ba, fe, tx⟩ = 2 := by unfold ckE Cf.nums; rw [if_pos]; simp only; omega
    rw [hv]
    exact check_f20 sl ge cl re qu ba fe tx w hsl hge kge (by simp [winB]; omega)
  have ccl := Decidable.not_not.1 ccl
  have hcl : winB cl 0 8 = true := by simp [winB]; omega
  by_cases cre : ¬ (0 ≤ re ∧ re ≤ 8)
  · have hv : ckE ⟨sl, ge, cl, re, qu, ba, fe, tx⟩ = 2 := by unfold ckE Cf.nums; rw [if_pos]; simp only; omega
    rw [hv]
    exact check_f30 sl ge cl re qu ba fe tx w hsl hge kge hcl (by simp [winB]; omega)
  have cre := Decidable.not_not.1 cre
  have hre : winB re 0 8 = true := by simp [winB]; omega
  by_cases cqu : ¬ (1 ≤ qu ∧ qu ≤ 64)
  · have hv : ckE ⟨sl, ge, cl, re, qu, ba, fe, tx⟩ = 2 := by unfold ckE Cf.nums; rw [if_pos]; simp only; omega
    rw [hv]
    exact check_f40 sl ge cl re qu ba fe tx w hsl hge kge hcl hre (by simp [winB]; omega)
  have cqu := Decidable.not_not.1 cqu
  have hqu : winB qu 1 64 = true := by simp [winB]; omega
  by_cases cba : ¬ (1 ≤ ba ∧ ba ≤ 16)
  · have hv : ckE ⟨sl, ge, cl, re, qu, ba, fe, tx⟩ = 2 := by unfold ckE Cf.nums; rw [if_pos]; simp only; omega
    rw [hv]
    exact check_f50 sl ge cl re qu ba fe tx w hsl hge kge hcl hre hqu (by simp [winB]; omega)
  have cba := Decidable.not_not.1 cba
  have hba : winB ba 1 16 = true := by simp [winB]; omega
  by_cases cfe : ¬ (1 ≤ fe ∧ fe ≤ 64)
  · have hv : ckE ⟨sl, ge, cl, re, qu, ba, fe, tx⟩ = 2 := by unfold ckE Cf.nums; rw [if_pos]; simp only; omega
    rw [hv]
    exact check_f60 sl ge cl re qu ba fe tx w hsl hge kge hcl hre hqu hba (by simp [winB]; omega)
  have cfe := Decidable.not_not.1 cfe
  have hfe : winB fe 1 64 = true := by simp [winB]; omega
  have hn : Cf.nums ⟨sl, ge, cl, re, qu, ba, fe, tx⟩ := ⟨csl, cge, ccl, cre, cqu, cba, cfe⟩
  by_cases hz : 65536 < tx.size
  · have hv : ckE ⟨sl, ge, cl, re, qu, ba, fe, tx⟩ = 5 := by unfold ckE; rw [if_neg (fun h => h hn), if_pos hz]
    rw [hv]
    exact check_long sl ge cl re qu ba fe tx w hsl hge kge hcl hre hqu hba hfe hz
  · have hv : ckE ⟨sl, ge, cl, re, qu, ba, fe, tx⟩ = (if vdB (bs tx) = false then 11 else 0) := by unfold ckE; rw [if_neg (fun h => h hn), if_neg hz]
    rw [hv]
    cases hv2 : vdB (bs tx) with
    | false => exact check_text_false sl ge cl re qu ba fe tx w hsl hge kge hcl hre hqu hba hfe (by omega) hv2
    | true => exact check_text_true sl ge cl re qu ba fe tx w hsl hge kge hcl hre hqu hba hfe (by omega) hv2
end Go.Proofs.YtefpabicgefciaaGreat
namespace Go.Proofs.YtefpabicgefciaaGreat
open Go.RowKit
set_option linter.unusedVariables false
set_option linter.unusedSimpArgs false
set_option linter.unusedSectionVars false
theorem replL_text {s : List UInt8} {at' k : Nat} (t : ByteArray) (h1 : at' + k ≤ s.length) : Dl.text s (Dl.atoms 0 (replL s.length at' k t)) = s.take at' ++ t.data.toList ++ s.drop (at' + k) := by
  obtain ⟨a1, a2, a3, a4⟩ := ful_sums ⟨1, at', ⟨#[]⟩⟩ (by simp)
  obtain ⟨b1, b2, b3, b4⟩ := ful_sums ⟨2, 0, t⟩ (by simp)
  obtain ⟨c1, c2, c3, c4⟩ := ful_sums ⟨3, k, ⟨#[]⟩⟩ (by simp)
  obtain ⟨d1, d2, d3, d4⟩ := ful_sums ⟨1, (s.length : Int) - at' - k, ⟨#[]⟩⟩ (by show (0 : Int) ≤ (s.length : Int) - at' - k; omega)
  have e0 : Dl.bytes ⟨1, at', ⟨#[]⟩⟩ = [] := rfl
  have e3 : Dl.bytes ⟨3, k, ⟨#[]⟩⟩ = [] := rfl
  have e4 : Dl.bytes ⟨1, (s.length : Int) - at' - k, ⟨#[]⟩⟩ = [] := rfl
  unfold replL
  rw [Dl.atoms_app, Dl.atoms_app, Dl.atoms_app, Dl.inl_app, Dl.inl_app, a1, b1, c1, a3, b3, c3, d3, Dl.text_app, Dl.text_app, Dl.text_app]
  unfold Dl.atom1
  rw [e0, e3, e4]
  simp only [List.map_nil, List.nil_append]
  have k2 : ¬ ((2 : Int) = 1) := by decide
  have k3 : ¬ ((3 : Int) = 1) := by decide
  simp only [k2, k3, if_true, if_false]
  try rw [Dl.inl_app, a1, b1]
  show Dl.text s (Dl.ups 0 (at' : Int).toNat) ++ Dl.text s ((Dl.bytes ⟨2, 0, t⟩).map Dl.neg ++ []) ++ Dl.text s [] ++ Dl.text s (Dl.ups (0 + ((at' : Int) + 0 + (k : Int))) ((s.length : Int) - at' - k).toNat) = _
  rw [List.append_nil, Dl.text_negs, Int.toNat_natCast, Dl.text_ups s at' 0 (Int.le_refl 0) (by omega), Dl.text_ups s _ (0 + ((at' : Int) + 0 + (k : Int))) (by omega) (by omega)]
  have n1 : (0 + ((at' : Int) + 0 + (k : Int))).toNat = at' + k := by omega
  have n2 : ((s.length : Int) - at' - k).toNat = s.length - (at' + k) := by omega
  rw [n1, n2, List.take_of_length_le (l := s.drop (at' + k)) (by rw [List.length_drop]; exact Nat.le_refl _)]
  simp [Dl.text, Dl.bytes]
/-- One edit's delta. -/
theorem edit_ok {s : ByteArray} {at' k : Nat} {t : ByteArray} (h1 : at' + k ≤ s.size) (hs : s.size ≤ 540) (ht : t.size ≤ 40) :
    let d := Dl.form (replL s.size at' k t)
    Dl.OkL d ∧ Dl.inl d = s.size ∧ Dl.oul d = ((s.size - k + t.size : Nat) : Int) ∧ d.length ≤ 4096 ∧ Dl.text s.data.toList (Dl.atoms 0 d) = s.data.toList.take at' ++ t.data.toList ++ s.data.toList.drop (at' + k) := by
  intro d
  have ho := replL_ok s.size at' k t
  obtain ⟨r1, r2, r3⟩ := replL_sums t h1
  obtain ⟨f1, f2, f3⟩ := Dl.form_ok ho
  have fo : Dl.oul d = Dl.oul (replL s.size at' k t) := by rw [Dl.oul_atoms f1 f3, Dl.atoms_len 0 ho]
  have fl := Dl.len_le f1
  rw [f2, show Dl.oul (Dl.form (replL s.size at' k t)) = Dl.oul (replL s.size at' k t) from fo, r1, r2] at fl
  refine ⟨f1, by rw [f2, r1], by rw [fo, r2], by show (Dl.form _).length ≤ 4096; omega, ?_⟩
  show Dl.text _ (Dl.atoms 0 (Dl.form _)) = _
  rw [f3]
  have := replL_text (s := s.data.toList) (at' := at') (k := k) t (by rw [Dl.size_list]; exact h1)
  rw [Dl.size_list] at this
  exact this
/-- What a chain of edits has published. -/
structure ChP (rs : List InV) (ts : List ByteArray) : Prop where
  len : rs.length = ts.length
  dl : ∀ r ∈ rs, r.ds.length ≤ 4096
  at' : ∀ (i : Nat) (r : InV), rs[i]? = some r → r.x.num = 2 * (i : Int) ∧ ∃ t, ts[i]? = some t ∧ r.x.b = t.size ∧ t.size ≤ 60 + 40 * i
  next : ∀ (i : Nat) (r : InV) (t t' : ByteArray), rs[i + 1]? = some r → ts[i]? = some t → ts[i + 1]? = some t' → Dl.OkL r.ds ∧ Dl.inl r.ds = t.size ∧ Dl.oul r.ds = t'.size ∧ r.ds.length ≤ 4096 ∧ Dl.text t.data.toList (Dl.atoms 0 r.ds) = t'.data.toList
theorem between_succ {rs : List InV} {a m : Nat} {r : InV} (h : rs[a + 1]? = some r) : between rs a (m + 1) = r.ds :: between rs (a + 1) m := by
  obtain ⟨h1, h2⟩ := List.getElem?_eq_some_iff.1 h
  unfold between
  rw [List.drop_eq_getElem_cons h1, h2, List.take_succ_cons, List.map_cons]
theorem between_app (rs : List InV) (a m k : Nat) : between rs a m ++ between rs (a + m) k = between rs a (m + k) := by
  unfold between
  rw [← List.map_append, List.take_add, List.drop_drop, show a + m + 1 = a + 1 + m by omega]
theorem ChP.chain {rs : List InV} {ts : List ByteArray} (h : ChP rs ts) (hl : ts.length ≤ 13) : ∀ (m a : Nat) (t t' : ByteArray), a + m < ts.length → ts[a]? = some t → ts[a + m]? = some t' →
    Dl.Chain t.size (between rs a m) ∧ Dl.endL t.size (between rs a m) = t'.size ∧ Dl.texts t.data.toList (between rs a m) = t'.data.toList
  | 0, a, t, t', _, ht, ht' => by
    rw [Nat.add_zero, ht] at ht'
    injection ht' with e
    subst e
    unfold between
    rw [List.take_zero]
    exact ⟨trivial, rfl, rfl⟩
  | m + 1, a, t, t', hlt, ht, ht' => by
    obtain ⟨r, hr⟩ : ∃ r, rs[a + 1]? = some r := ⟨rs[a + 1]'(by rw [h.len]; omega), List.getElem?_eq_getElem _⟩
    obtain ⟨u, hu⟩ : ∃ u, ts[a + 1]? = some u := ⟨ts[a + 1]'(by omega), List.getElem?_eq_getElem _⟩
    obtain ⟨n1, n2, n3, n4, n5⟩ := h.next a r t u hr ht hu
    obtain ⟨r0, hr0⟩ : ∃ r, rs[a]? = some r := ⟨rs[a]'(by rw [h.len]; omega), List.getElem?_eq_getElem _⟩
    have z1 : t.size ≤ 60 + 40 * a := by
      obtain ⟨_, t2, e, _, z⟩ := h.at' a r0 hr0
      rw [ht] at e; injection e with e; rw [e]; exact z
    have z2 : u.size ≤ 60 + 40 * (a + 1) := by
      obtain ⟨_, t2, e, _, z⟩ := h.at' (a + 1) r hr
      rw [hu] at e; injection e with e; rw [e]; exact z
    obtain ⟨i1, i2, i3⟩ := h.chain hl m (a + 1) u t' (by omega) hu (by rw [← ht']; congr 1; omega)
    rw [between_succ hr]
    refine ⟨⟨n1, n2, n4, by omega, by omega, by rw [n3]; exact i1⟩, ?_, ?_⟩
    · show Dl.endL (Dl.oul r.ds) _ = _
      rw [n3]; exact i2
    · show Dl.texts (Dl.text t.data.toList (Dl.atoms 0 r.ds)) _ = _
      rw [n5]; exact i3
/-- One more edit. -/
theorem ChP.snoc {rs : List InV} {ts : List ByteArray} (h : ChP rs ts) {i : Nat} (hi : ts.length = i + 1) (hi2 : i < 12) {s t s' : ByteArray} {at' k : Nat} (hs : ts[i]? = some s) (h1 : at' + k ≤ s.size) (ht : t.size ≤ 40) (e : s'.data.toList = s.data.toList.take at' ++ t.data.toList ++ s.data.toList.drop (at' + k)) {r : InV}
    (hn : r.x.num = 2 * (i : Int) + 2) (hb : r.x.b = s'.size) (hd : r.ds = Dl.form (replL s.size at' k t)) : ChP (rs ++ [r]) (ts ++ [s']) := by
  have hrl : rs.length = i + 1 := by rw [h.len, hi]
  obtain ⟨r0, hr0⟩ : ∃ r, rs[i]? = some r := ⟨rs[i]'(by omega), List.getElem?_eq_getElem _⟩
  have z1 : s.size ≤ 60 + 40 * i := by
    obtain ⟨_, t2, e2, _, z⟩ := h.at' i r0 hr0
    rw [hs] at e2; injection e2 with e2; rw [e2]; exact z
  obtain ⟨d1, d2, d3, d4, d5⟩ := edit_ok (t := t) h1 (by omega) ht
  have hsz : s'.size = s.size - k + t.size := by
    rw [← Dl.size_list s', e]
    simp only [List.length_append, List.length_take, List.length_drop, Dl.size_list]
    omega
  refine ⟨by simp [h.len], fun q hq => ?_, fun j q hq => ?_, fun j q u u' hq hu hu' => ?_⟩
  · rcases List.mem_append.1 hq with hq | hq
    · exact h.dl q hq
    · simp at hq
      rw [hq, hd]; exact d4
  · by_cases hj : j < rs.length
    · rw [List.getElem?_append_left hj] at hq
      obtain ⟨a1, t2, a2, a3⟩ := h.at' j q hq
      exact ⟨a1, t2, by rw [List.getElem?_append_left (by omega)]; exact a2, a3⟩
    · have hlt := (List.getElem?_eq_some_iff.1 hq).1
      rw [List.length_append, List.length_singleton] at hlt
      have hj2 : j = i + 1 := by omega
      subst hj2
      rw [List.getElem?_append_right (by omega), hrl, Nat.sub_self] at hq
      injection hq with hq
      subst hq
      refine ⟨by rw [hn]; push_cast; omega, s', ?_, hb, by rw [hsz]; omega⟩
      rw [List.getElem?_append_right (by omega), hi, Nat.sub_self]; rfl
  · have hlt := (List.getElem?_eq_some_iff.1 hq).1
    rw [List.length_append, List.length_singleton] at hlt
    by_cases hj : j + 1 < rs.length
    · rw [List.getElem?_append_left hj] at hq
      rw [List.getElem?_append_left (by omega)] at hu hu'
      exact h.next j q u u' hq hu hu'
    · have hj2 : j = i := by omega
      subst hj2
      rw [List.getElem?_append_right (by omega), hrl, Nat.sub_self] at hq
      rw [List.getElem?_append_left (by omega), hs] at hu
      rw [List.getElem?_append_right (by omega), hi, Nat.sub_self] at hu'
      injection hq with hq
      injection hu with hu
      injection hu' with hu'
      subst hq
      subst hu
      subst hu'
      rw [hd]
      exact ⟨d1, d2, by rw [d3, hsz], d4, by rw [d5, e]⟩
/-- A text of a few bytes below 128 needs few nodes, and is valid. -/
theorem vd_ascii : ∀ (n : Nat) (l : List Int), l.length = n → (∀ x ∈ l, 0 ≤ x ∧ x < 128) → Vd l := by
  intro n
  induction n with
  | zero => intro l h _; exact Vd.nil h
  | succ n ih =>
    intro l h hl
    match l, h with
    | x :: l, h =>
      have hx := hl x (by simp)
      have e1 : dlen (x :: l) = 1 := by
        unfold dlen ann
        show (if 244 < lk (x :: l) 0 then _ else _) = _
        have : lk (x :: l) 0 = x := rfl
        rw [this, if_neg (by omega), if_neg (by omega), if_neg (by omega), if_neg (by omega), if_pos (by omega)]
      refine Vd.step ⟨by simp, by rw [e1]; exact Int.le_refl 1, by rw [e1]; simp; omega, by rw [e1]; exact contTo1 _, ?_⟩ ?_
      · rw [e1]
        unfold dval
        rw [e1]
        show rlen (lead (lk (x :: l) 0) 1) = 1
        have : lk (x :: l) 0 = x := rfl
        rw [this]
        have e2 : lead x 1 = x := by simp [lead]
        rw [e2]
        unfold rlen runeB
        rw [if_neg (by simp; omega), if_pos hx.2]
      · rw [e1]
        exact ih l (by simpa using h) (fun y hy => hl y (by simp [hy]))
theorem del_ok {rs : List InV} {ts : List ByteArray} (h : ChP rs ts) (hl : ts.length ≤ 13) {a m : Nat} {t t' : ByteArray} (hlt : a + m < ts.length) (ht : ts[a]? = some t) (ht' : ts[a + m]? = some t') :
    (Dl.allE t.size (between rs a m)).2 = 0 ∧ Dl.chkL (Dl.allE t.size (between rs a m)).1 = 0 ∧ Dl.inl (Dl.allE t.size (between rs a m)).1 = t.size ∧ Dl.text t.data.toList (Dl.atoms 0 (Dl.allE t.size (between rs a m)).1) = t'.data.toList := by
  obtain ⟨c1, c2, c3⟩ := h.chain hl m a t t' hlt ht ht'
  have z : ∀ (i : Nat) (u : ByteArray), ts[i]? = some u → u.size ≤ 1000 := fun i u hu => by
    have hi := (List.getElem?_eq_some_iff.1 hu).1
    obtain ⟨r, hr⟩ : ∃ r, rs[i]? = some r := ⟨rs[i]'(by rw [h.len]; exact hi), List.getElem?_eq_getElem _⟩
    obtain ⟨_, t2, e, _, z⟩ := h.at' i r hr
    rw [hu] at e; injection e with e; rw [e]; omega
  have z1 := z a t ht
  have z2 := z (a + m) t' ht'
  obtain ⟨e1, i1⟩ := Dl.allE_is z1 c1
  have ho := i1.oul
  have hlen : ((Dl.thru (Dl.ups 0 t.size) (between rs a m)).length : Int) = t'.size := by
    rw [Dl.thru_len _ _ (by rw [Dl.ups_len]; exact c1), Dl.ups_len, c2]
  rw [hlen] at ho
  have hll := Dl.len_le i1.1
  rw [i1.2.2.1, ho] at hll
  refine ⟨e1, Dl.chkL_zero.2 ⟨by omega, i1.1, by rw [i1.2.2.1]; omega, by rw [ho]; omega⟩, i1.2.2.1, ?_⟩
  have tx := Dl.text_all (t := t.data.toList) (l := between rs a m) (by rw [Dl.size_list]; exact z1) (by rw [Dl.size_list]; exact c1)
  rw [Dl.size_list] at tx
  rw [tx, c3]
theorem rope_small {s : ByteArray} {x : Rt} {en : Int} {ns : List An} (h : RopeRes 64 s x en ns) (hs : s.size ≤ 60) : en = 0 := by
  rcases h with ⟨_, _, e, _⟩ | ⟨_, t, _, hg, hb, ⟨_, _, e, _⟩ | ⟨hc, _⟩⟩
  · exact e
  · exact e
  · exfalso
    rcases hg with ⟨u, rfl, _⟩ | ⟨k, _, hf⟩
    · simp [T.cnt] at hc
    · have := fit_cnt t k hf
      omega
end Go.Proofs.YtefpabicgefciaaGreat
namespace Go.Proofs.YtefpabicgefciaaGreat
open Go.RowKit
set_option linter.unusedVariables false
set_option linter.unusedSimpArgs false
set_option linter.unusedSectionVars false
structure Ed where
  a : Int
  n : Int
  t : ByteArray
def Ed.cells (e : Ed) : List Value := [.int .i64 e.a, .int .i64 e.n, .string e.t]
def InEd (w : World) (a : Option Addr) (n : Nat) (l : List Ed) : Prop := l.length = n ∧ (0 < n → ∃ b off, a = some ⟨b, off, none⟩ ∧ b < w.heap.size ∧ ∀ (i j : Nat) (e : Ed) (v : Value), l[i]? = some e → e.cells[j]? = some v → w.cell? ⟨b, off + (i * 3 + j), none⟩ = some v)
theorem InEd.keep {w w' : World} {a : Option Addr} {n : Nat} {l : List Ed} (h : InEd w a n l) (c : Ch (fun _ => False) w w') : InEd w' a n l :=
  ⟨h.1, fun h0 => by
    obtain ⟨b, off, rfl, hb, hc⟩ := h.2 h0
    exact ⟨b, off, rfl, Nat.lt_of_lt_of_le hb c.size, fun i j e v hi hj => (c.cell (p := ⟨b, _, none⟩) hb id).trans (hc i j e v hi hj)⟩⟩
structure Shrt (s : ByteArray) (l : List Ed) : Prop where
  sz : s.size ≤ 60
  len : l.length ≤ 12
  low : ∀ (i : Nat) (h : i < s.size), (s[i].toNat : Int) < 128
  tx : ∀ e ∈ l, e.t.size ≤ 40
set_option maxRecDepth 100000 in
set_option maxHeartbeats 1000000 in
theorem short_any (s : ByteArray) (a : Option Addr) (n c : Nat) (l : List Ed) (w : World) (h : InEd w a n l) (hs : s.size ≤ maxLen) :
    Calls Tryz.prog 41 #[.string s, .slice a n c] w fun e w' => ∃ b : Bool, e = .returned (.bool b) ∧ (b = true → Shrt s l) ∧ w = w' := by
  have H := hid h
  have HL := hid h.1
  have hs' : s.size ≤ 9223372036854775807 := by unfold maxLen at hs; omega
  clear h hs
  by_cases h60 : (60 : Int) < (s.size : Int)
  · have b1 : decide ((60 : Int) < (s.size : Int)) = true := decide_eq_true h60
    clear h60
    go_enter Tryz.func41, Tryz.ntmps41
    go_wp2_with fail
    go_ret
    exact ⟨false, rfl, by simp, rfl⟩
  · have b1 : decide ((60 : Int) < (s.size : Int)) = false := decide_eq_false h60
    by_cases h12 : (12 : Int) < (n : Int)
    · have b2 : decide ((12 : Int) < (n : Int)) = true := decide_eq_true h12
      clear h60 h12
      go_enter Tryz.func41, Tryz.ntmps41
      go_wp2_with fail
      go_ret
      exact ⟨false, rfl, by simp, rfl⟩
    · have b2 : decide ((12 : Int) < (n : Int)) = false := decide_eq_false h12
      have b2' : decide (12 < n) = false := decide_eq_false (by omega)
      have b1' : decide (60 < s.size) = false := decide_eq_false (by omega)
      go_enter Tryz.func41, Tryz.ntmps41
      go_wp2_with fail
      go_loopw [5] (fun i W => ∃ k : Nat, k ≤ s.size ∧ i = .int .i64 (k : Int) ∧ (∀ (j : Nat) (h : j < s.size), j < k → (s[j].toNat : Int) < 128) ∧ w = W) (fun i _ => s.size - (intOf i).toNat)
      case atStart => exact ⟨0, Nat.zero_le _, rfl, fun j _ h => by omega, rfl⟩
      case round =>
        obtain ⟨k, hk, rfl, hlow, rfl⟩ := hrel
        have HLO := hid hlow
        clear hlow
        by_cases hlt : k < s.size
        · have d1 : decide ((k : Int) < (s.size : Int)) = true := decide_eq_true (by omega)
          have d2 : decide (k < s.size) = true := decide_eq_true hlt
          have hz := bs_get s k hlt
          obtain ⟨z, hzz⟩ : ∃ z : Int, z = lk (bs s) k := ⟨_, rfl⟩
          rw [← hzz] at hz
          have HZ := hid hz
          clear hzz
          by_cases hb : (128 : Int) ≤ z
          · have d3 : decide ((128 : Int) ≤ z) = true := decide_eq_true hb
            go_wp2_with fail
            go_ret
            exact ⟨false, rfl, by simp, rfl⟩
          · have d3 : decide ((128 : Int) ≤ z) = false := decide_eq_false hb
            go_wp2_with fail
            go_roundw
            case rel =>
              refine ⟨k + 1, hlt, by go_num, fun j hj hjk => ?_, by first | trivial | rfl⟩
              by_cases hjk2 : j < k
              · exact HLO.out j hj hjk2
              · obtain rfl : j = k := by omega
                rw [HZ.out]; omega
            case measure => simp [intOf]; omega
        · have d1 : decide ((k : Int) < (s.size : Int)) = false := decide_eq_false (by omega)
          have d2 : decide (k < s.size) = false := decide_eq_false hlt
          have HAL := hid (show ∀ (i : Nat) (h : i < s.size), (s[i].toNat : Int) < 128 from fun i h => HLO.out i h (by omega))
          go_wp2_with fail
          go_loopw [6] (fun i W => ∃ k : Nat, k ≤ n ∧ i = .int .i64 (k : Int) ∧ (∀ (j : Nat) (e : Ed), l[j]? = some e → j < k → e.t.size ≤ 40) ∧ w = W) (fun i _ => n - (intOf i).toNat)
          case atStart => exact ⟨0, Nat.zero_le _, rfl, fun j e _ h => by omega, rfl⟩
          case round =>
            obtain ⟨q, hq, rfl, htx, rfl⟩ := hrel
            have HT := hid htx
            clear htx
            by_cases hlq : q < n
            · have e1 : decide ((q : Int) < (n : Int)) = true := decide_eq_true (by omega)
              have e2 : decide (q < n) = true := decide_eq_true hlq
              obtain ⟨x, hx⟩ : ∃ x, l[q]? = some x := ⟨l[q]'(by rw [HL.out]; exact hlq), List.getElem?_eq_getElem _⟩
              obtain ⟨b, off, hab, hbl, hcell⟩ := H.out.2 (by omega)
              subst hab
              have c2 : w.cell? ⟨b, off + q * 3 + 2, none⟩ = some (.string x.t) := by rw [show off + q * 3 + 2 = off + (q * 3 + 2) by omega]; exact hcell q 2 x _ hx rfl
              have HX := hid hx
              clear hcell hx
              by_cases h40 : (40 : Int) < (x.t.size : Int)
              · have e3 : decide ((40 : Int) < (x.t.size : Int)) = true := decide_eq_true h40
                have e3' : decide (40 < x.t.size) = true := decide_eq_true (by omega)
                go_wp2_with fail
                go_ret
                exact ⟨false, rfl, by simp, rfl⟩
              · have e3 : decide ((40 : Int) < (x.t.size : Int)) = false := decide_eq_false h40
                have e3' : decide (40 < x.t.size) = false := decide_eq_false (by omega)
                go_wp2_with fail
                go_roundw
                case rel =>
                  refine ⟨q + 1, hlq, by go_num, fun j y hy hjq => ?_, by first | trivial | rfl⟩
                  by_cases hjq2 : j < q
                  · exact HT.out j y hy hjq2
                  · obtain rfl : j = q := by omega
                    rw [HX.out] at hy
                    injection hy with hy
                    rw [← hy]; omega
                case measure => simp [intOf]; omega
            · have e1 : decide ((q : Int) < (n : Int)) = false := decide_eq_false (by omega)
              have e2 : decide (q < n) = false := decide_eq_false hlq
              go_wp2_with fail
              go_ret
              refine ⟨true, rfl, fun _ => ⟨by omega, by rw [HL.out]; omega, HAL.out, fun e he => ?_⟩, rfl⟩
              obtain ⟨j, hj⟩ := List.getElem?_of_mem he
              exact HT.out j e hj (by have := (List.getElem?_eq_some_iff.1 hj).1; rw [HL.out] at this; omega)
end Go.Proofs.YtefpabicgefciaaGreat
namespace Go.Proofs.YtefpabicgefciaaGreat
open Go.RowKit
set_option linter.unusedVariables false
set_option linter.unusedSimpArgs false
theorem bcell {W w1 : World} (hb : Below W.heap.size W w1) : (∀ b o, b < W.heap.size → w1.cell? ⟨b, o, none⟩ = W.cell? ⟨b, o, none⟩) ∧ (∀ b o, b < W.heap.size → w1.frozen? ⟨b, o, none⟩ = W.frozen? ⟨b, o, none⟩) :=
  ⟨fun b o h => hb.cell (p := ⟨b, o, none⟩) h, fun b o h => hb.frozen (p := ⟨b, o, none⟩) h⟩
def layV (sl re fe ce : Int) : Value := .agg #[.int .i64 0, .int .i64 1, .int .i64 2, .int .i64 3, .int .i64 4, .int .i64 5, .int .i64 sl, .int .i64 re, .int .i64 fe, .int .i64 ce]
def layZ : Value := .agg #[.int .i64 0, .int .i64 0, .int .i64 0, .int .i64 0, .int .i64 0, .int .i64 0, .int .i64 0, .int .i64 0, .int .i64 0, .int .i64 0]
def Cf.l6 (c : Cf) : Int := 5 + c.qu
def Cf.l7 (c : Cf) : Int := 5 + c.qu + c.cl * c.re
def Cf.l8 (c : Cf) : Int := 5 + c.qu + c.cl * c.re + c.cl
def Cf.l9 (c : Cf) : Int := 5 + c.qu + c.cl * c.re + c.cl + c.cl * (4 + c.fe)
theorem ck_nums {c : Cf} (h : ckE c = 0) : c.nums := by
  unfold ckE at h
  split at h
  · cases h
  · rename_i hn; exact Classical.not_not.1 hn
theorem mul_bd {a b m n : Int} (h1 : 0 ≤ a) (h2 : a ≤ m) (h3 : 0 ≤ b) (h4 : b ≤ n) : 0 ≤ a * b ∧ a * b ≤ m * n := by
  refine ⟨Int.mul_nonneg h1 h3, ?_⟩
  exact Int.mul_le_mul h2 h4 h3 (by omega)
set_option maxHeartbeats 400000 in
theorem place_bad (c : Cf) (w : World) (hm : c.tx.size ≤ 1000000) (h : ckE c ≠ 0) : Calls Tryz.prog 58 #[c.v] w fun e w' => e = .returned (.tuple #[layZ, .int .i64 (ckE c)]) ∧ Below w.heap.size w w' := by
  have hc := check_all c
  obtain ⟨sl, ge, cl, re, qu, ba, fe, tx⟩ := c
  simp only [Cf.v] at hc ⊢
  generalize ckE ⟨sl, ge, cl, re, qu, ba, fe, tx⟩ = k at h hc ⊢
  have hb : (k != 0) = true := by rw [bne_iff_ne]; exact h
  have HC := hid hc
  clear hc
  go_enter Tryz.func58, Tryz.ntmps58
  go_wp2_with fail
  refine (HC.out _ hm).mono ?_
  rintro e w1 ⟨rfl, hbel⟩
  obtain ⟨hcell, hfr⟩ := bcell hbel
  have hsz := hbel.size
  simp only [World.size_alloc] at hsz
  go_wp2_with fail
  refine bodyPost_ret (v := .tuple #[layZ, .int .i64 k]) ?_ rfl ⟨rfl, ?_⟩
  · simp [results, Tryz.results58, go_sem, layZ, hcell, hfr]
  · iterate 10 refine Below.setCell ?_ (by simp) _
    exact (((Below.refl _ _).alloc (Nat.le_refl _) _).alloc (by simp) _).trans (hbel.mono (by simp; omega))
set_option maxHeartbeats 400000 in
theorem place_ok (c : Cf) (w : World) (hm : c.tx.size ≤ 1000000) (h : ckE c = 0) : Calls Tryz.prog 58 #[c.v] w fun e w' => e = .returned (.tuple #[layV c.l6 c.l7 c.l8 c.l9, .int .i64 0]) ∧ Below w.heap.size w w' := by
  have hc := check_all c
  obtain ⟨-, -, ⟨c1, c2⟩, ⟨r1, r2⟩, ⟨q1, q2⟩, -, ⟨f1, f2⟩⟩ := ck_nums h
  rw [h] at hc
  clear h
  obtain ⟨sl, ge, cl, re, qu, ba, fe, tx⟩ := c
  simp only [Cf.v, Cf.l6, Cf.l7, Cf.l8, Cf.l9] at hc c1 c2 r1 r2 q1 q2 f1 f2 ⊢
  obtain ⟨m1, m2⟩ := mul_bd c1 c2 r1 r2
  obtain ⟨m3, m4⟩ := mul_bd c1 c2 (by omega : 0 ≤ 4 + fe) (by omega : 4 + fe ≤ 68)
  have HC := hid hc
  clear hc
  go_enter Tryz.func58, Tryz.ntmps58
  go_wp2_with fail
  refine (HC.out _ hm).mono ?_
  rintro e w1 ⟨rfl, hbel⟩
  obtain ⟨hcell, hfr⟩ := bcell hbel
  have hsz := hbel.size
  simp only [World.size_alloc] at hsz
  have e1 : w1.cell? ⟨w.heap.size, 4, none⟩ = some (.int .i64 qu) := by rw [hcell _ _ (by simp; omega)]; simp
  have e2 : w1.cell? ⟨w.heap.size, 2, none⟩ = some (.int .i64 cl) := by rw [hcell _ _ (by simp; omega)]; simp
  have e3 : w1.cell? ⟨w.heap.size, 3, none⟩ = some (.int .i64 re) := by rw [hcell _ _ (by simp; omega)]; simp
  have e4 : w1.cell? ⟨w.heap.size, 6, none⟩ = some (.int .i64 fe) := by rw [hcell _ _ (by simp; omega)]; simp
  have hlt : w.heap.size < w1.heap.size := by omega
  have hlt1 : w.heap.size + 1 < w1.heap.size := by omega
  go_wp2_with fail
  refine bodyPost_ret (v := .tuple #[layV (5 + qu) (5 + qu + cl * re) (5 + qu + cl * re + cl) (5 + qu + cl * re + cl + cl * (4 + fe)), .int .i64 0]) ?_ rfl ⟨rfl, ?_⟩
  · simp [results, Tryz.results58, go_sem, layV, hcell, hfr, hlt1]
  · refine Below.alloc ?_ (by simp; omega) _
    iterate 10 refine Below.setCell ?_ (by simp) _
    exact (((Below.refl _ _).alloc (Nat.le_refl _) _).alloc (by simp) _).trans (hbel.mono (by simp; omega))
end Go.Proofs.YtefpabicgefciaaGreat
namespace Go.Proofs.YtefpabicgefciaaGreat
open Go.RowKit
set_option linter.unusedSimpArgs false
set_option linter.unusedVariables false
end Go.Proofs.YtefpabicgefciaaGreat
namespace Go.Proofs.YtefpabicgefciaaGreat
open Go.RowKit
set_option linter.unusedSimpArgs false
set_option linter.unusedVariables false
/-- The reference's bank at block p. -/
structure RBank (B : Nat) (w : World) (p vb : Nat) (lv : Value) (vs : List Int) (lg : List Acc) : Prop where
  hp : Blk w p 61 #[.slice (some ⟨vb, 0, none⟩) vs.length vs.length, lv]
  hc : Blk w vb 22 (u64s vs)
  hl : w.ownsRow B 365 6 lv lg.length (logCells lg)
  hn : vs.length ≤ 4096
  bp : B ≤ p
  bc : B ≤ vb
theorem RBank.ch {B : Nat} {w w' : World} {p vb : Nat} {lv : Value} {vs : List Int} {lg : List Acc} {fp : Nat → Prop} (h : RBank B w p vb lv vs lg) (c : Ch fp w w')
    (h1 : ¬ fp p) (h2 : ¬ fp vb) (h3 : ∀ k, lv.ownBlock = some k → ¬ fp k) : RBank B w' p vb lv vs lg :=
  ⟨c.blk h.hp h1, c.blk h.hc h2, c.own h.hl h3, h.hn, h.bp, h.bc⟩
def RStep (B : Nat) (w w' : World) (p vb : Nat) (lv : Value) (s : BS) : Prop := ∃ lv', RBank B w' p vb lv' s.vs s.lg ∧ Ch (FP p vb lv) w w' ∧ Fresh w lv lv'
theorem RStep.refl {B : Nat} {w : World} {p vb : Nat} {lv : Value} {s : BS} (h : RBank B w p vb lv s.vs s.lg) : RStep B w w p vb lv s := ⟨lv, h, Ch.refl _ _, .inl rfl⟩
theorem RStep.below {B : Nat} {w w' : World} {p vb : Nat} {lv : Value} {vs : List Int} {lg : List Acc} {s' : BS} (hs : RStep B w w' p vb lv s') (h : RBank B w p vb lv vs lg) (hB : B ≤ w.heap.size) : Below B w w' := by
  obtain ⟨_, _, hc, _⟩ := hs
  refine hc.below hB (fun j hj => ?_)
  rcases hj with rfl | rfl | hj
  · exact h.bp
  · exact h.bc
  · exact (h.hl.lt j hj).1
end Go.Proofs.YtefpabicgefciaaGreat
namespace Go.Proofs.YtefpabicgefciaaGreat
open Go.RowKit
set_option linter.unusedSimpArgs false
set_option linter.unusedVariables false
section
variable (B p vb : Nat) (lv : Value) (s : BS) (t c : Int) (w : World) (h : RBank B w p vb lv s.vs s.lg) (hlen : s.lg.length < 1000000) (hB : B ≤ w.heap.size)
include h hlen hB
end
def BS.has (s : BS) (c : Int) : Bool := decide (0 ≤ c ∧ c < s.vs.length)
def BS.pk (s : BS) (c : Int) : Int := if 0 ≤ c ∧ c < s.vs.length then lk s.vs c.toNat else 0
theorem Bank.out {B : Nat} {w : World} {p cb : Nat} {lv : Value} {vs : List Int} {lg : List Acc} (h : Bank B w p cb lv vs lg) {g : Nat} {t : TypeId} {cs : Array Value} (hb : Blk w g t cs) (h1 : t ≠ 166) (h2 : t ≠ 171) (h3 : t ≠ 365) : ¬ FP p cb lv g := by
  rintro (rfl | rfl | hk)
  · exact h1 (hb.inj h.hp).1
  · exact h2 (hb.inj h.hc).1
  · exact hb.own h.hl h3 hk
theorem RBank.out {B : Nat} {w : World} {p vb : Nat} {lv : Value} {vs : List Int} {lg : List Acc} (h : RBank B w p vb lv vs lg) {g : Nat} {t : TypeId} {cs : Array Value} (hb : Blk w g t cs) (h1 : t ≠ 61) (h2 : t ≠ 22) (h3 : t ≠ 365) : ¬ FP p vb lv g := by
  rintro (rfl | rfl | hk)
  · exact h1 (hb.inj h.hp).1
  · exact h2 (hb.inj h.hc).1
  · exact hb.own h.hl h3 hk
/-- Both banks in one memory. -/
structure Two (B : Nat) (w : World) (p cb : Nat) (lv : Value) (s : BS) (q vb : Nat) (mv : Value) (r : BS) : Prop where
  b : Bank B w p cb lv s.vs s.lg
  r : RBank B w q vb mv r.vs r.lg
  sep : ∀ k, lv.ownBlock = some k → mv.ownBlock ≠ some k
theorem Two.ch {B : Nat} {w w' : World} {p cb : Nat} {lv : Value} {s : BS} {q vb : Nat} {mv : Value} {r : BS} (h : Two B w p cb lv s q vb mv r) (c : Ch (fun _ => False) w w') : Two B w' p cb lv s q vb mv r :=
  ⟨h.b.ch c id id (fun _ _ => id), h.r.ch c id id (fun _ _ => id), h.sep⟩
end Go.Proofs.YtefpabicgefciaaGreat
