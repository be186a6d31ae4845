/- Texts XCur, XPcA for XPcs, by trim.py. -/
import Derived.Test.YtjcdknhejcbpiaaGreatPb47
import Derived.Test.YtjcdknhejcbpiaaGreatPb29
import Derived.Test.YtjcdknhejcbpiaaGreatPb46
import Derived.Test.YtjcdknhejcbpiaaGreatPb11
namespace Go.Proofs.YtjcdknhejcbpiaaGreat
open Go.RowKit
set_option linter.unusedVariables false
set_option linter.unusedSimpArgs false
set_option linter.unusedSectionVars false
section
variable {B : Nat} {w0 w : World} {R : List Res} {σ : RS} {bs' : List Bx} {y : Ly} {n m : Nat} {ts : List (List UInt8)}
set_option maxRecDepth 100000 in
set_option maxHeartbeats 1000000 in
theorem rsnap_any (g lb n k sg : Nat) (r : Rd) (l : List (Option Nat)) (w : World) (h : Blk w g 111 r.cells) (hs : r.sl = .slice (some ⟨lb, 0, none⟩) n n) (hl : Blk w lb 140 (pinsA l)) (hk : k < n) (hn : n < 1000) (hg : l[k]? = some (some sg)) :
    Calls Tryz.prog 52 #[.pointer (some ⟨g, 0, none⟩), .int .i64 (k : Int)] w fun e w' => e = .returned (.tuple #[.pointer (some ⟨sg, 0, none⟩), .int .i64 0]) ∧ w = w' := by
  have a2 : w.cell? ⟨g, 2, none⟩ = some (.slice (some ⟨lb, 0, none⟩) n n) := (h.cell 2).trans (by rw [← hs]; rfl)
  have ck : w.cell? ⟨lb, k, none⟩ = some (.pointer (some ⟨sg, 0, none⟩)) := (hl.cell k).trans (pinsA_at hg)
  have d1 : decide ((k : Int) < 0) = false := decide_eq_false (by omega)
  have d2 : decide ((k : Int) ≥ (n : Int)) = false := decide_eq_false (by omega)
  have d3 : decide (n ≤ k) = false := decide_eq_false (by omega)
  have d4 : decide ((n : Int) ≤ (k : Int)) = false := decide_eq_false (by omega)
  have hne : ∀ W : World, (binOp .eql 140 (.pointer (some ⟨sg, 0, none⟩)) (.pointer none)).run Tryz.prog W = .ok (.bool false) W := fun W => by kernel_rfl
  clear h hs hl hg
  go_enter Tryz.func52, Tryz.ntmps52
  go_wp2_with fail
  go_ret2
  exact ⟨rfl, rfl⟩
set_option maxRecDepth 100000 in
set_option maxHeartbeats 1000000 in
theorem rcursor_m (M : Mem B w0 (σ.L B ++ R) w) (K : RnOk σ y n m ts none) {k : Nat} (hk : k < n) (hn : n < 1000) {s : Snp} (hs : σ.sl[k]? = some (some s)) :
    Calls Tryz.prog 21 #[.pointer (some ⟨σ.g, 0, none⟩), .int .i64 (k : Int)] w fun e w' => e = .returned (.tuple #[.int .i64 s.cu, .int .i64 0]) ∧ w = w' := by
  have hb : Blk w s.g 144 s.cells := ((m_sl M).s k s hs).b
  have c9 : w.cell? ⟨s.g, 9, none⟩ = some (.int .i64 s.cu) := hb.cell 9
  have hsn := rsnap_any σ.g σ.lb n k s.g σ.r (σ.sl.map sptr) w (m_rd M) K.O.sl (m_sl M).b hk hn (by rw [List.getElem?_map, hs]; rfl)
  have HSN := hid hsn
  clear hs hb hsn M K
  go_enter Tryz.func21, Tryz.ntmps21
  go_wp2_with fail
  refine HSN.out.mono ?_
  rintro e w' ⟨rfl, rfl⟩
  go_wp2_with fail
  go_ret2
  exact ⟨rfl, rfl⟩
set_option maxRecDepth 100000 in
set_option maxHeartbeats 1000000 in
theorem snew_bad (c : Cf) (w : World) (hm : c.tx.size ≤ 1000000) (h : ckE c ≠ 0) : Calls Tryz.prog 18 #[c.v] w fun e w' => e = .returned (.tuple #[.pointer none, .int .i64 (ckE c)]) ∧ Below w.heap.size w w' := by
  have HP := hid (fun W => place_bad c W hm h)
  obtain ⟨sl, ge, cl, re, qu, ba, fe, tx⟩ := c
  simp only [Cf.v] at HP ⊢
  have hb : (ckE ⟨sl, ge, cl, re, qu, ba, fe, tx⟩ != 0) = true := by rw [bne_iff_ne]; exact h
  generalize ckE ⟨sl, ge, cl, re, qu, ba, fe, tx⟩ = k at h hb HP ⊢
  clear h hm
  go_enter Tryz.func18, Tryz.ntmps18
  go_wp2_with fail
  refine calls_world fun W1 hW1 => ?_
  have H1 := hid (show Below w.heap.size w W1 from by rw [hW1]; exact (Below.refl _ _).alloc (Nat.le_refl _) _)
  clear hW1
  refine (HP.out W1).mono ?_
  rintro e w2 ⟨rfl, hb2⟩
  have H2 := hid (show Below w.heap.size w w2 from H1.out.trans (hb2.mono H1.out.size))
  clear hb2
  simp only [layZ]
  go_wp2_with fail
  go_ret2
  exact ⟨rfl, H2.out.alloc H2.out.size _⟩
end
end Go.Proofs.YtjcdknhejcbpiaaGreat
namespace Go.Proofs.YtjcdknhejcbpiaaGreat
open Go.RowKit
set_option linter.unusedVariables false
set_option linter.unusedSimpArgs false
set_option linter.unusedSectionVars false
theorem topT_cntN : ∀ (n : Nat) (l : List T), l.length ≤ n → T.cntL (topT l) ≤ T.cntL l + l.length
  | 0, l, h => by rw [topT_le (by omega)]; omega
  | n + 1, l, h => by
    by_cases h1 : l.length ≤ 1
    · rw [topT_le h1]; omega
    · have e1 := rowUp_cnt l
      have l1 := rowUp_len l
      have l2 := (grp_le (n := l.length) (m := 4) (by decide)).2
      rw [topT_up (by omega)]
      have ih := topT_cntN n (rowUp l) (by omega)
      have h2 : 2 * (rowUp l).length ≤ l.length := by
        by_cases h3 : l.length = 3
        · rw [l1, h3]; decide
        · by_cases h5 : l.length = 2
          · rw [l1, h5]; decide
          · by_cases h6 : l.length = 5
            · rw [l1, h6]; decide
            · omega
      omega
theorem build_cnt38 {s : ByteArray} {t : T} (h : buildT s = [t]) (hs : s.size ≤ 300) : t.cnt ≤ 38 := by
  have hl : (baseT s).length ≤ 19 := by
    rw [base_len]
    have := grp_le (n := s.size) (m := 16) (by decide)
    omega
  have h1 := topT_cntN 19 (baseT s) hl
  have h2 : T.cntL (baseT s) = (baseT s).length := by
    unfold baseT
    rw [leaf_cnt, List.length_map]
  have h3 : T.cntL (topT (baseT s)) = t.cnt := by
    have e : topT (baseT s) = [t] := h
    rw [e]
    simp [T.cntL]
  omega
theorem room300 {s : ByteArray} (hs : s.size ≤ 300) : ∀ x ns, ¬ RopeRes 200 s x 6 ns := by
  rintro x ns (⟨_, _, h, _⟩ | ⟨_, t, hb, _, _, ⟨_, _, h, _⟩ | ⟨hc, _⟩⟩)
  · cases h
  · cases h
  · have := build_cnt38 hb hs
    omega
theorem ckP_ok {s : ByteArray} (hs : s.size ≤ 60000) (hv : vdB (bs s) = true) : ckE ⟨200, 1, 2, 1, 1, 1, 1, s⟩ = 0 := by
  unfold ckE
  rw [if_neg (fun h' => h' (by unfold Cf.nums; simp only; omega)), if_neg (by show ¬ 65536 < s.size; omega), if_neg (by show ¬ vdB (bs s) = false; rw [hv]; decide)]
theorem ckP_bad {s : ByteArray} (hs : s.size ≤ 60000) (hv : vdB (bs s) = false) : ckE ⟨200, 1, 2, 1, 1, 1, 1, s⟩ = 11 := by
  unfold ckE
  rw [if_neg (fun h' => h' (by unfold Cf.nums; simp only; omega)), if_neg (by show ¬ 65536 < s.size; omega), if_pos hv]
/-- The next piece: its text, and the cursor behind it. -/
theorem next_out {σ : RS} {ts : List (List UInt8)} {pg : Pg} {k b i c : Nat} {s : Snp} {tx : List UInt8} (hs : σ.sl[k]? = some (some s)) (hix : s.ix = (i : Int)) (ht : ts[i]? = some tx) (hc : s.cu = (c : Int)) (h : StartP σ ts (.next k b) pg) :
    pg.out = { RsV.zero with s := ⟨((tx.drop c).take b).toArray⟩, at' := ((c + min b (tx.length - c) : Nat) : Int) } ∧ pg.eff σ.sl = σ.sl.set k (some { s with cu := ((c + min b (tx.length - c) : Nat) : Int) }) := by
  rcases h with ⟨h, _⟩ | ⟨_, ⟨h, _⟩ | ⟨s', i', tx', h, hi, ht', hp⟩⟩
  · cases h
  · have h : σ.sl[k]? = some none := h
    rw [hs] at h
    cases h
  · have h : σ.sl[k]? = some (some s') := h
    rw [hs] at h
    injection h with h; injection h with h; subst h
    obtain rfl : i = i' := by rw [hix] at hi; omega
    rw [ht] at ht'
    injection ht' with ht'; subst ht'
    obtain ⟨c', hc', hp⟩ := hp
    obtain rfl : c = c' := by rw [hc] at hc'; omega
    have htk : (tx.drop c).take (min b (tx.length - c)) = (tx.drop c).take b := by
      rw [← List.length_drop, ← List.take_eq_take_min]
    rcases hp with ⟨h0, rfl⟩ | ⟨h0, jx, _, rfl⟩
    · rw [h0] at htk ⊢
      rw [← htk]
      exact ⟨rfl, by show setCur σ.sl k _ = _; rw [setCur_at _ hs]; rfl⟩
    · rw [← htk]
      exact ⟨rfl, by show setCur σ.sl k _ = _; rw [setCur_at _ hs]⟩
/-- What is known between the pieces. -/
structure PcI (w0 : World) (y : Ly) (tx : ByteArray) (g c : Nat) (W : World) (σ : RS) (bs : List Bx) (s : Snp) (x : RsV) : Prop where
  M : Mem w0.heap.size w0 (σ.L w0.heap.size ++ (boxR bs :: [])) W
  K : RnOk σ y 1 0 [tx.data.toList] none
  G : PgAt σ bs 1 0 [tx.data.toList] (.fin x)
  hg : σ.g = g
  sl : σ.sl = [some s]
  ix : s.ix = 0
  cu : s.cu = (c : Int)
  le : c ≤ tx.size
  lg : σ.s.lg.length ≤ 1000
theorem PcI.keep {w0 : World} {y : Ly} {tx : ByteArray} {g c : Nat} {W W' : World} {σ : RS} {bs : List Bx} {s : Snp} {x : RsV} (h : PcI w0 y tx g c W σ bs s x) (ch : Ch (fun _ => False) W W') : PcI w0 y tx g c W' σ bs s x := { h with M := h.M.keep ch }
theorem pc_next {w0 W : World} {y : Ly} {tx : ByteArray} {g c b : Nat} {σ : RS} {bs : List Bx} {s : Snp} {x : RsV} (h : PcI w0 y tx g c W σ bs s x) (h3 : tx.size ≤ 300) :
    Calls Tryz.prog 12 #[.pointer (some ⟨g, 0, none⟩), .agg #[.int .u8 12, .int .i64 0, .int .i64 0, .int .i64 (b : Int), .int .u32 0, .int .u8 0, .string ⟨#[]⟩]] W fun e w' =>
      ∃ v x2 σ2 bs2 s2, e = .returned (.tuple #[v, x2.v, .bool true]) ∧ x2.er = 0 ∧ x2.s.data.toList = (tx.data.toList.drop c).take b ∧ x2.at' = ((c + min b (tx.size - c) : Nat) : Int) ∧ PcI w0 y tx g (c + min b (tx.size - c)) w' σ2 bs2 s2 x2 := by
  have hg := h.hg
  subst hg
  have hlen : tx.data.toList.length = tx.size := dsize tx
  refine (fin_rd (c := .next 0 b) h.M h.K (by have := h.lg; omega) (fun e => by cases e) (fun k e => by cases e) (by decide : (0 : Nat) < 1) (fun t ht => by rw [List.mem_singleton.1 ht, hlen]; exact h3) (fun R W M => beg_next M h.K h.G.1 (by decide))).mono ?_
  rintro e w' ⟨σ2, bs2, x2, v, phs, rfl, hM, hS, hK, hG, ⟨hs, pg, hst, hx, hsl⟩, hll⟩
  obtain ⟨a1, a2⟩ := next_out (i := 0) (tx := tx.data.toList) (by rw [h.sl]; rfl) h.ix rfl h.cu hst
  rw [hlen] at a1 a2
  refine ⟨v, x2, σ2, bs2, { s with cu := ((c + min b (tx.size - c) : Nat) : Int) }, rfl, by rw [hx, a1]; rfl, by rw [hx, a1], by rw [hx, a1], ⟨hM.drop1c, hK, hG, hS.g, by rw [hsl, a2, h.sl]; rfl, h.ix, rfl, by have := h.le; omega, by rw [hs]; exact h.lg⟩⟩
end Go.Proofs.YtjcdknhejcbpiaaGreat
