/- Lemmas that the proof of the last text leans on; no condition. -/
import Derived.Test.YtjcdknhejcbpiaaGreatNb26
import Derived.Test.YtjcdknhejcbpiaaGreatNb28
namespace Go.Proofs.YtjcdknhejcbpiaaGreat
open Go.RowKit
set_option linter.unusedVariables false
set_option linter.unusedSimpArgs false
set_option linter.unusedSectionVars false
set_option maxRecDepth 100000
structure PenM (A : ArA) (w : World) (W0 : Nat) (ns : List An) (st : Int) (pb g rl : Nat) (sps : List Sp) (its : List It) (k : Nat) (ys : List An) : Prop where
  len : its.length = sps.length
  yl : ys.length = k
  kle : k ≤ sps.length
  ok : PostOK 0 sps
  ar : ArM A w (ns ++ ys) st
  ap : ArP (ns ++ ys)
  yx : ∀ (j : Nat) (y : An), ys[j]? = some y → ∃ sp, sps[j]? = some sp ∧ y.x = sp.nd ns.length sps
  pen : ∃ (a : Option Addr) (c : Nat), Blk w pb 248 #[.pointer (some ⟨A.ab, 0, none⟩), .slice a (sps.length - k) c, .pointer (some ⟨rl, 0, none⟩)] ∧ (k < sps.length → a = some ⟨g, k, none⟩ ∧ sps.length - k ≤ c)
  todo : ∃ cs : Array Value, Blk w g 276 cs ∧ ∀ (j : Nat) (it : It), its[j]? = some it → cs[j]? = some it.v
  item : ∀ (i : Nat) (sp : Sp) (it : It), sps[i]? = some sp → its[i]? = some it → ItemM w (fun _ => True) pb (fOf 0 its) sp it
  root : ∀ (i : Nat) (sp : Sp) (it : It), sps[i]? = some sp → its[i]? = some it → RootM w sp it (if i < k then hdl (ns.length + i) else 0)
  diff : ∀ (i j : Nat) (it it' : It), its[i]? = some it → its[j]? = some it' → i ≠ j → it.rb ≠ it'.rb
  off : ∀ y ∈ ns ++ ys, ∀ b, y.kb b → b ≠ pb ∧ ∀ it ∈ its, b ≠ it.rb
  rlast : ∃ it, its[sps.length - 1]? = some it ∧ it.rb = rl
  old : W0 ≤ pb ∧ W0 ≤ g ∧ ∀ it ∈ its, W0 ≤ it.rb
set_option maxHeartbeats 4000000 in
theorem begin_any (A : ArA) (ns : List An) (st : Int) (t : T) (cs : List Value) (S : Nat → Prop) (w : World) (h : ArM A w ns st) (hP : ArP ns) (hg : t.good) (hT : TreeAt w S t cs) (hb : t.bytes ≤ 65536) (hc : t.cnt ≤ 60000) (hroom : t.cnt ≤ A.n - ns.length) (hn : A.n ≤ 16384) :
    Calls Tryz.prog 119 #[.pointer (some ⟨A.ab, 0, none⟩), .agg cs.toArray] w fun e w' => ∃ pb g rl its, e = .returned (.tuple #[.pointer (some ⟨pb, 0, none⟩), .int .i64 0]) ∧ PenM A w' w.heap.size ns st pb g rl (T.post 0 t) its 0 [] ∧ Ch (fun _ => False) w w' := by
  obtain ⟨s, a, n, c, rfl⟩ := hT.form
  have d1 : decide (A.n - ns.length < t.cnt) = false := decide_eq_false (by omega)
  have d2 : decide (((A.n - ns.length : Nat) : Int) < (t.cnt : Int)) = false := decide_eq_false (by omega)
  obtain ⟨F, hF⟩ : ∃ F, F = A.n - ns.length := ⟨_, rfl⟩
  rw [← hF] at d1 d2
  obtain ⟨TC, hTC⟩ : ∃ x, x = t.cnt := ⟨_, rfl⟩
  rw [← hTC] at d1 d2
  have H := hid h
  have HP := hid hP
  have HG := hid hg
  have HT := hid hT
  have HF := hid hF
  have HTC := hid hTC
  have HB := hid hb
  have HC := hid hc
  clear h hP hT hg hF hTC hroom hb hc
  go_enter Tryz.func119, Tryz.ntmps119
  go_wp2_with fail
  refine calls_world fun W1 hW1 => ?_
  have C1 := hid (show Ch (fun _ => False) w W1 from by rw [hW1]; exact (Ch.refl _ w).alloc _)
  have T1 := hid (HT.out.keep C1.out (fun _ _ _ => id) (fun _ _ h => h) (S' := S))
  have K1 := hid (show Blk W1 w.heap.size 183 #[.int .u64 0, .int .i64 (Int.ofNat t.ht), .int .i64 0, .int .i64 0, .int .i64 0, .string s, .slice a n c] from by rw [hW1]; exact Blk.new w _ _)
  clear hW1
  refine (pcheck_any A.ab t _ W1 S HG.out T1.out HB.out).mono ?_
  rintro e W2 ⟨rfl, hc2⟩
  have C2 := hid (C1.out.trans hc2 (fun _ _ e => e))
  have K2 := hid (hc2.blk K1.out id)
  have T2 := hid (T1.out.keep hc2 (fun _ _ _ => id) (fun _ _ h => h) (S' := S))
  clear hc2 C1 T1 K1
  have k0 : W2.cell? ⟨w.heap.size, 0, none⟩ = some (.int .u64 0) := K2.out.cell 0
  have k1 : W2.cell? ⟨w.heap.size, 1, none⟩ = some (.int .i64 (Int.ofNat t.ht)) := K2.out.cell 1
  have k2 : W2.cell? ⟨w.heap.size, 2, none⟩ = some (.int .i64 0) := K2.out.cell 2
  have k3 : W2.cell? ⟨w.heap.size, 3, none⟩ = some (.int .i64 0) := K2.out.cell 3
  have k4 : W2.cell? ⟨w.heap.size, 4, none⟩ = some (.int .i64 0) := K2.out.cell 4
  have k5 : W2.cell? ⟨w.heap.size, 5, none⟩ = some (.string s) := K2.out.cell 5
  have k6 : W2.cell? ⟨w.heap.size, 6, none⟩ = some (.slice a n c) := K2.out.cell 6
  go_wp2_with fail
  refine (gnew_any t _ W2 S HG.out T2.out (by have := HC.out; omega)).mono ?_
  rintro e W3 ⟨rfl, hc3⟩
  have C3 := hid (C2.out.trans hc3 (fun _ _ e => e))
  have K3 := hid (hc3.blk K2.out id)
  have T3 := hid (T2.out.keep hc3 (fun _ _ _ => id) (fun _ _ h => h) (S' := S))
  clear hc3 C2 T2 K2 k0 k1 k2 k3 k4 k5 k6
  rw [← HTC.out]
  go_wp2_with fail
  refine (statsM A ns st hn W3 (H.out.keep0 C3.out)).mono ?_
  rintro e W4 ⟨rfl, hc4⟩
  rw [← HF.out]
  have C4 := hid (C3.out.trans hc4 (fun _ _ e => e))
  have K4 := hid (hc4.blk K3.out id)
  have T4 := hid (T3.out.keep hc4 (fun _ _ _ => id) (fun _ _ h => h) (S' := S))
  clear hc4 C3 T3 K3
  have k0 : W4.cell? ⟨w.heap.size, 0, none⟩ = some (.int .u64 0) := K4.out.cell 0
  have k1 : W4.cell? ⟨w.heap.size, 1, none⟩ = some (.int .i64 (Int.ofNat t.ht)) := K4.out.cell 1
  have k2 : W4.cell? ⟨w.heap.size, 2, none⟩ = some (.int .i64 0) := K4.out.cell 2
  have k3 : W4.cell? ⟨w.heap.size, 3, none⟩ = some (.int .i64 0) := K4.out.cell 3
  have k4 : W4.cell? ⟨w.heap.size, 4, none⟩ = some (.int .i64 0) := K4.out.cell 4
  have k5 : W4.cell? ⟨w.heap.size, 5, none⟩ = some (.string s) := K4.out.cell 5
  have k6 : W4.cell? ⟨w.heap.size, 6, none⟩ = some (.slice a n c) := K4.out.cell 6
  have hwl : w.heap.size < W4.heap.size := K4.out.lt
  have hfd : ∀ W, (Instr.field 97 (.agg #[.int .i64 (A.n : Int), .int .i64 (F : Int), .int .i64 (ns.length : Int), .int .i64 0, .int .i64 (ns.length : Int), .int .i64 0, .int .i64 st]) 1).run Tryz.prog W = .ok (.int .i64 (F : Int)) W := fun W => by kernel_rfl
  go_wp2_with fail
  refine calls_world fun W5 hW5 => ?_
  obtain ⟨pb, hpb⟩ : ∃ x, x = W4.heap.size := ⟨_, rfl⟩
  rw [← hpb]
  have C5 := hid (show Ch (fun _ => False) w W5 from by rw [hW5]; exact C4.out.alloc _)
  have P5 := hid (show Blk W5 pb 248 #[.pointer (some ⟨A.ab, 0, none⟩), .slice none 0 0, .pointer none] from by rw [hW5, hpb]; exact Blk.new W4 _ _)
  have T5 := hid (show TreeAt W5 (fun k => S k ∧ k < W4.heap.size) t [.int .u64 0, .int .i64 (Int.ofNat t.ht), .int .i64 0, .int .i64 0, .int .i64 0, .string s, .slice a n c] from by rw [hW5]; exact T4.out.keep ((Ch.refl (fun _ => False) W4).alloc _) (fun _ _ _ => id) (fun k hk h => ⟨h, hk⟩))
  clear hW5 k0 k1 k2 k3 k4 k5 k6 hfd
  have HPB := hid hpb
  have hwpb : w.heap.size ≤ pb := by omega
  have hsz5 := C5.out.size
  refine (gadd_any t HG.out _ w.heap.size pb (.pointer (some ⟨A.ab, 0, none⟩)) (.pointer none) W5 (fun k => S k ∧ k < W4.heap.size) 0 (.slice none 0 0) [] T5.out P5.out (World.ownsRow_nil _ _ _ _) hsz5 (by have := HC.out; omega) (fun k hk e => by
    rcases e with e | e
    · have := hk.2; omega
    · simp [Value.ownBlock] at e) HB.out).mono ?_
  rintro e W6 ⟨its, it0, todo', rfl, hl, hp6, ho6, hI6, hr6, hc6, hf6⟩
  have P6 := hid hp6
  have O6 := hid ho6
  have I6 := hid hI6
  have R6 := hid hr6
  have C6 := hid hc6
  have L6 := hid hl
  clear hp6 ho6 hI6 hr6 hc6 hf6 hl
  have c2 : W6.cell? ⟨pb, 2, none⟩ = some (.pointer none) := P6.out.cell 2
  have s2 := P6.out.free 2
  rw [HPB.out] at c2 s2
  go_wp2_with fail
  refine at_world fun W7 hW7 => ?_
  have P7 := hid (show Blk W7 pb 248 #[.pointer (some ⟨A.ab, 0, none⟩), todo', .pointer (some ⟨it0.rb, 0, none⟩)] from by rw [hW7, ← HPB.out]; exact P6.out.put 2 _)
  have C7 := hid (show Ch (fun k => k = pb) W6 W7 from by rw [hW7, ← HPB.out]; exact (Ch.refl (fun k => k = pb) W6).set (fun _ => rfl) _)
  clear hW7 c2 s2
  have htc := HTC.out
  have hcp := cnt_pos t
  obtain ⟨_, hO⟩ := O6.out
  obtain ⟨g, cap, cur, rfl, hgB, hgb, hcap, _, _, hcur⟩ := hO.resolve_left (fun e => by have := e.2; omega)
  have hgb' : Blk W6 g 276 cur := hgb
  rw [List.nil_append] at hcur
  have hsl : (T.post 0 t).length = t.cnt := post_len t 0
  have hilen : its.length = t.cnt := by rw [I6.out.len, hsl]
  have I7 := I6.out.keep (S' := fun _ => True) C7.out (fun j u cs hb hq hs e => Blk.ne hb P6.out (fun e => absurd (e ▸ hq) (by unfold QT; decide)) e) (fun _ _ _ => trivial) (fun it hit e => by
    obtain ⟨cs, hb⟩ := I6.out.rblk it hit
    exact Blk.ne hb P6.out (by decide) e)
  have C56 := C6.out
  have hsz6 := C6.out.size
  have C07 : Ch (fun _ => False) w W7 := (C5.out.trans C6.out (fun i hi e => by
    rcases e with e | e
    · omega
    · simp [Value.ownBlock] at e)).trans C7.out (fun i hi e => by omega)
  have hM := H.out.keep0 C07
  refine bodyPost_ret (v := .tuple #[.pointer (some ⟨W4.heap.size, 0, none⟩), .int .i64 0]) (by simp [results, Tryz.results119, go_sem]) rfl ⟨pb, g, it0.rb, its, by rw [HPB.out], ⟨by rw [hilen, hsl], rfl, Nat.zero_le _, gpost_ok t HG.out HB.out 0, by simpa using hM, by simpa using HP.out, fun j y hj => by simp at hj, ⟨_, cap, ?_, fun _ => ⟨rfl, ?_⟩⟩, ⟨cur, C7.out.blk hgb' (fun e => Blk.ne hgb' P6.out (by decide) e), fun j it hj => ?_⟩, I7.item, fun i sp it h1 h2 => ?_, I7.diff, fun y hy b hyb => ?_, ⟨it0, by rw [hsl]; exact L6.out, rfl⟩, hwpb, hgB, fun it hit => ?_⟩, C07⟩
  · have t := P7.out
    rw [hsl]
    simpa using t
  · rw [hsl]; simpa using hcap
  · rw [Nat.zero_add, Nat.mul_one] at hcur
    have hj' : (its.map It.v)[j]? = some it.v := by rw [List.getElem?_map, hj]; rfl
    rw [← hcur, List.getElem?_take] at hj'
    split at hj'
    · rw [← Array.getElem?_toList]; exact hj'
    · cases hj'
  · rw [if_neg (by omega)]
    exact I7.root i sp it h1 h2
  · have hlt : b < w.heap.size := H.out.foot_lt (.inr (.inr (.inr ⟨y, by simpa using hy, hyb⟩)))
    refine ⟨by omega, fun it hit => ?_⟩
    have := R6.out it hit
    omega
  · have := R6.out it hit
    omega
end Go.Proofs.YtjcdknhejcbpiaaGreat
