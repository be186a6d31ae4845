/- StoreLayout: the walk. -/
import Derived.Test.YtgbmipglahebpaaPlaces
namespace Go.Proofs.Ytgbmipglahebpaa
open Go.RowKit
set_option linter.unusedVariables false

/-- How often each cell was used, the first K once. -/
def uArr (K : Nat) : Array Value := ((List.range 4096).map fun k => Value.int .i64 (if k < K then 1 else 0)).toArray
theorem uArr_get (K k : Nat) (h : k < 4096) : (uArr K)[k]? = some (.int .i64 (if k < K then 1 else 0)) := by simp [uArr, h]
theorem uArr_set (K : Nat) (h : K < 4096) : (uArr K).setIfInBounds K (.int .i64 1) = uArr (K + 1) := by
  unfold uArr
  apply Array.ext_getElem?
  intro i
  rw [Array.getElem?_setIfInBounds]
  simp only [List.getElem?_toArray, List.getElem?_map, List.size_toArray, List.length_map, List.length_range]
  by_cases hi : i < 4096
  · simp only [List.getElem?_range hi, Option.map_some]
    by_cases hk : K = i
    · subst hk; simp [hi]
    · simp only [hk, if_false, Option.some.injEq, Value.int.injEq, true_and]
      by_cases h2 : i < K
      · rw [if_pos h2, if_pos (by omega)]
      · rw [if_neg h2, if_neg (by omega)]
  · rw [if_neg (by omega)]
    simp [hi]
theorem uArr_zero : madeX (Value.cells (.int .i64 0)) 4096 = uArr 0 := by
  unfold madeX madeCells uArr
  apply Array.ext
  · simp
  · intro i h1 h2
    simp [Value.cells, Nat.mod_one]

theorem Try.infoInt : (Try.prog.info? 3).map (fun i => (i.zero, i.size, i.bytes)) = some (some (.int .i64 0), 1, 8) := by kernel_rfl
theorem make_used (w : World) : (Instr.makeSlice 32 (.int .i64 4096) (.int .i64 4096)).run Try.prog w = .ok (.slice (some ⟨w.heap.size, 0, none⟩) 4096 4096) (w.alloc (.cells (uArr 0) 3)) := by
  have h := run_make_x (P := Try.prog) 32 3 (.int .i64 0) 1 8 Try.underlying32 Try.infoInt (by decide) 4096 (by decide) w
  rw [Nat.mul_one, uArr_zero] at h
  exact h

def vInts (l : List Int) : Array Value := (l.map (Value.int .i64)).toArray
theorem vInts_get (l : List Int) (i : Nat) (h : i < l.length) : (vInts l)[i]? = some (.int .i64 (lk l i)) := by simp [vInts, lk, h]

/-- The groups: where they begin, their sizes, and how many cells lie before. -/
def lyB (a b c d : Int) : List Int := [0, 1, 2, 3, 4, 5, a, b, c, 0]
def lyS (q p k r : Int) : List Int := [1, 1, 1, 1, 1, q, p, k, r, 0]
def lyK (a b c d : Int) : List Int := [0, 1, 2, 3, 4, 5, a, b, c, d, d]
theorem ly_fact {a b c d q p k r : Int} (ha : a = 5 + q) (hb : b = 5 + q + p) (hc : c = 5 + q + p + k) (hd : d = 5 + q + p + k + r) (hq : 0 ≤ q) (hp : 0 ≤ p) (hk : 0 ≤ k) (hr : 0 ≤ r) (g : Nat) (hg : g < 10) :
    lk (lyK a b c d) (g + 1) = lk (lyK a b c d) g + lk (lyS q p k r) g ∧ 0 ≤ lk (lyK a b c d) g ∧ lk (lyK a b c d) (g + 1) ≤ d ∧ 0 ≤ lk (lyS q p k r) g ∧ (0 < lk (lyS q p k r) g → lk (lyB a b c d) g = lk (lyK a b c d) g) := by
  have : g = 0 ∨ g = 1 ∨ g = 2 ∨ g = 3 ∨ g = 4 ∨ g = 5 ∨ g = 6 ∨ g = 7 ∨ g = 8 ∨ g = 9 := by omega
  rcases this with rfl | rfl | rfl | rfl | rfl | rfl | rfl | rfl | rfl | rfl
  all_goals
    simp [lk, lyK, lyS, lyB]
    omega

set_option maxRecDepth 100000 in
set_option maxHeartbeats 2000000 in
theorem layout_ok (sl ge cl re qu ba fe : Int) (tx : ByteArray) (w : World) (hs : tx.size ≤ 300) (h : ckE ⟨sl, ge, cl, re, qu, ba, fe, tx⟩ = 0) :
    Calls Try.prog 4 #[.agg #[.int .i64 sl, .int .u64 ge, .int .i64 cl, .int .i64 re, .int .i64 qu, .int .i64 ba, .int .i64 fe, .string tx]] w fun e w' => e = .returned (.bool true) ∧ Below w.heap.size w w' := by
  have hm : tx.size ≤ 1000000 := by omega
  have hp := fun w => place_ok ⟨sl, ge, cl, re, qu, ba, fe, tx⟩ w hm h
  obtain ⟨-, -, ⟨c1, c2⟩, ⟨r1, r2⟩, ⟨q1, q2⟩, -, ⟨f1, f2⟩⟩ := ck_nums h
  simp only at c1 c2 r1 r2 q1 q2 f1 f2
  simp only [Cf.v, layV, Cf.l6, Cf.l7, Cf.l8, Cf.l9] at hp
  obtain ⟨m1, m2⟩ := mul_bd c1 c2 r1 r2
  obtain ⟨m3, m4⟩ := mul_bd c1 c2 (by omega : 0 ≤ 4 + fe) (by omega : 4 + fe ≤ 68)
  obtain ⟨a, ha⟩ : ∃ a, a = 5 + qu := ⟨_, rfl⟩
  obtain ⟨b, hb⟩ : ∃ b, b = 5 + qu + cl * re := ⟨_, rfl⟩
  obtain ⟨c, hc⟩ : ∃ c, c = 5 + qu + cl * re + cl := ⟨_, rfl⟩
  obtain ⟨d, hd⟩ : ∃ d, d = 5 + qu + cl * re + cl + cl * (4 + fe) := ⟨_, rfl⟩
  rw [← hd, ← hc, ← hb, ← ha] at hp
  have hly := fun g hg => ly_fact ha hb hc hd (by omega) m1 c1 m3 g hg
  have hd0 : 0 ≤ d := by omega
  have hd1 : d ≤ 685 := by omega
  have HL := hid hly
  have HP := hid hp
  clear hp hly h ha hb hc hd
  have d0 : decide ((300 : Int) < tx.size) = false := by simp; omega
  go_enter Try.func4, Try.ntmps4
  go_wp2_with fail
  refine (HP.out _).mono ?_
  rintro e w1 ⟨rfl, hb1⟩
  have hB : Blk w1 w.heap.size 24 #[Value.int .i64 sl, .int .u64 ge, .int .i64 cl, .int .i64 re, .int .i64 qu, .int .i64 ba, .int .i64 fe, .string tx] := (hb1.block _ (by simp)).trans (Blk.new w _ _)
  have hsz := hb1.size
  simp only [World.size_alloc] at hsz
  have q2' := hB.cell 2
  have q3' := hB.cell 3
  have q4' := hB.cell 4
  have q6' := hB.cell 6
  simp only [List.getElem?_toArray, List.getElem?_cons_zero, List.getElem?_cons_succ] at q2' q3' q4' q6'
  have hlt : w.heap.size < w1.heap.size := by omega
  have hlt2 : w.heap.size < w1.heap.size + 1 := by omega
  have hlt3 : w.heap.size < w1.heap.size + 1 + 1 := by omega
  have hmk := make_used
  have HB1 := hid hb1
  have HB := hid hB
  clear hb1 hB
  go_wp2_with fail
  clear q2' q3' q4' q6' hmk
  generalize hwp : cl * re = p at *
  generalize hwr : cl * (4 + fe) = r at *
  clear hwp hwr
  have hU0 := hid (uArr_zero)
  go_loopw [8] (fun i wr => ∃ g : Nat, g ≤ 10 ∧ i = .int .i64 g ∧ ∃ K : Nat, lk (lyK a b c d) g = K ∧ K ≤ 4096 ∧ Blk wr (w1.heap.size + 1) 3 (uArr K) ∧ Blk wr w1.heap.size 26 #[.int .i64 0, .int .i64 1, .int .i64 2, .int .i64 3, .int .i64 4, .int .i64 5, .int .i64 a, .int .i64 b, .int .i64 c, .int .i64 d] ∧ Blk wr (w1.heap.size + 1 + 1) 33 (vInts (lyB a b c d)) ∧ Blk wr (w1.heap.size + 1 + 1 + 1) 33 (vInts (lyS qu p cl r)) ∧ Below w.heap.size w wr) (fun i _ => 10 - (intOf i).toNat)
  case atStart =>
    have e0 : ∀ (cs cs' : Array Value) (t t' : TypeId), ((w1.alloc (.cells cs t)).alloc (.cells cs' t')).heap.size = w1.heap.size + 1 + 1 := fun _ _ _ _ => by simp
    have e1 : ∀ (cs cs' cs'' : Array Value) (t t' t'' : TypeId), (((w1.alloc (.cells cs t)).alloc (.cells cs' t')).alloc (.cells cs'' t'')).heap.size = w1.heap.size + 1 + 1 + 1 := fun _ _ _ _ _ _ => by simp
    refine ⟨0, by omega, rfl, 0, rfl, by omega, ?_, ?_, ?_, ?_, ?_⟩
    · have h1 := Blk.new (w1.alloc (.cells #[.int .i64 0, .int .i64 1, .int .i64 2, .int .i64 3, .int .i64 4, .int .i64 5, .int .i64 a, .int .i64 b, .int .i64 c, .int .i64 d] 26)) 3 (uArr 0)
      rw [World.size_alloc] at h1
      exact (h1.alloc _).alloc _
    · exact (((Blk.new w1 _ _).alloc _).alloc _).alloc _
    · have h1 := Blk.new ((w1.alloc (.cells #[.int .i64 0, .int .i64 1, .int .i64 2, .int .i64 3, .int .i64 4, .int .i64 5, .int .i64 a, .int .i64 b, .int .i64 c, .int .i64 d] 26)).alloc (.cells (uArr 0) 3)) 33 (vInts (lyB a b c d))
      rw [e0] at h1
      exact h1.alloc _
    · have h1 := Blk.new (((w1.alloc (.cells #[.int .i64 0, .int .i64 1, .int .i64 2, .int .i64 3, .int .i64 4, .int .i64 5, .int .i64 a, .int .i64 b, .int .i64 c, .int .i64 d] 26)).alloc (.cells (uArr 0) 3)).alloc (.cells (vInts (lyB a b c d)) 33)) 33 (vInts (lyS qu p cl r))
      rw [e1] at h1
      exact h1
    · exact ((((((Below.refl _ _).alloc (Nat.le_refl _) _).trans (HB1.out.mono (by simp))).alloc (by omega) _).alloc (by simp; omega) _).alloc (by simp; omega) _).alloc (by simp; omega) _
  case round =>
    obtain ⟨g, hg, rfl, K, hK, hK2, hu, hl, hbb, hss, hbel⟩ := hrel
    by_cases hlt : g < 10
    · obtain ⟨f1, f2, f3, f4, f5⟩ := HL.out g hlt
      rw [hK] at f1 f5
      clear hK f2
      generalize hGK : lk (lyK a b c d) (g + 1) = K1 at f1 f3
      generalize hGS : lk (lyS qu p cl r) g = Sg at f1 f4 f5
      have HGK := hid hGK
      have HGS := hid hGS
      have HF5 := hid f5
      have HF1 := hid f1
      have f6 : (K : Int) + Sg ≤ d := by omega
      clear hGK hGS f5 f1
      go_wp2_with fail
      obtain ⟨wo, rfl⟩ : ∃ wo : World, wo = wr := ⟨_, rfl⟩
      have HU := hid hu
      have HLb := hid hl
      have HBb := hid hbb
      have HSb := hid hss
      clear hu hl hbb hss
      go_loopw [9, 10] (fun i _ wr => ∃ j : Nat, i = .int .i64 j ∧ (j : Int) ≤ Sg ∧ Blk wr (w1.heap.size + 1) 3 (uArr (K + j)) ∧ Blk wr w1.heap.size 26 #[.int .i64 0, .int .i64 1, .int .i64 2, .int .i64 3, .int .i64 4, .int .i64 5, .int .i64 a, .int .i64 b, .int .i64 c, .int .i64 d] ∧ Blk wr (w1.heap.size + 1 + 1) 33 (vInts (lyB a b c d)) ∧ Blk wr (w1.heap.size + 1 + 1 + 1) 33 (vInts (lyS qu p cl r)) ∧ Below w.heap.size w wr) (fun i _ _ => 4096 - (intOf i).toNat)
      case atStart => exact ⟨0, rfl, by omega, HU.out, HLb.out, HBb.out, HSb.out, hbel⟩
      case round =>
        obtain ⟨j, rfl, hj, hu, hl, hbb, hss, hbel2⟩ := hrel
        have cS := (hss.cell g).trans (vInts_get _ g hlt)
        rw [HGS.out] at cS
        by_cases hjs : (j : Int) < Sg
        · have cB := (hbb.cell g).trans (vInts_get _ g hlt)
          rw [HF5.out (by omega)] at cB
          have cL := hl.cell 9
          simp only [List.getElem?_toArray, List.getElem?_cons_zero, List.getElem?_cons_succ] at cL
          have hkd : K + j < 4096 := by omega
          have hkd2 : (K : Int) + j < d := by omega
          have cU := (hu.cell (K + j)).trans (uArr_get (K + j) (K + j) hkd)
          rw [if_neg (by omega)] at cU
          have fU := hu.free (K + j)
          have hne1 : w1.heap.size + 1 ≠ w1.heap.size := by omega
          have HU2 := hid hu
          have HL2 := hid hl
          have HB2 := hid hbb
          have HS2 := hid hss
          clear hu hl hbb hss
          have d3 : decide (((K : Int) + (j : Int)) < 0) = false := by simp; omega
          have d4 : decide (d ≤ (K : Int) + (j : Int)) = false := by simp; omega
          go_wp2_with fail
          go_roundw
          case rel =>
            refine ⟨j + 1, by go_num, by omega, ?_, HL2.out.far (by dsimp only; omega) _, HB2.out.far (by dsimp only; omega) _, HS2.out.far (by dsimp only; omega) _, hbel2.setCell (by simp; omega) _⟩
            have h1 := HU2.out.put (K + j) (.int .i64 1)
            rw [uArr_set _ hkd] at h1
            exact h1
          case measure => simp [intOf]; omega
        · have hjj : (j : Int) = Sg := by omega
          have HU2 := hid hu
          have HL2 := hid hl
          have HB2 := hid hbb
          have HS2 := hid hss
          clear hu hl hbb hss
          go_wp2_with fail
          go_roundw
          case rel =>
            refine ⟨g + 1, by omega, by go_num, K + j, ?_, by omega, HU2.out, HL2.out, HB2.out, HS2.out, hbel2⟩
            rw [HGK.out, HF1.out, ← hjj]; omega
          case measure => simp [intOf]; omega
    · obtain rfl : g = 10 := by omega
      have hKd : (K : Int) = d := by rw [← hK]; rfl
      clear hK hbb hss
      obtain rfl : d = K := hKd.symm
      clear hKd
      go_wp2_with fail
      have HU := hid hu
      have cL := hl.cell 9
      simp only [List.getElem?_toArray, List.getElem?_cons_zero, List.getElem?_cons_succ] at cL
      clear hu hl
      go_loop [11] (fun i => ∃ k : Nat, i = .int .i64 k ∧ k ≤ K) (fun i => 4096 - (intOf i).toNat)
      case atStart => exact ⟨0, rfl, by omega⟩
      case round =>
        obtain ⟨k, rfl, hk⟩ := hrel
        by_cases hlk : k < K
        · have cU := (HU.out.cell k).trans (uArr_get K k (by omega))
          rw [if_pos hlk] at cU
          go_wp2_with fail
          go_round
          case rel => exact ⟨k + 1, by go_num, by omega⟩
          case measure => simp [intOf]; omega
        · go_wp2_with fail
          go_ret
          exact ⟨rfl, hbel⟩

set_option maxHeartbeats 1000000 in
theorem layout_bad (sl ge cl re qu ba fe : Int) (tx : ByteArray) (w : World) (hs : tx.size ≤ 300) (h : ckE ⟨sl, ge, cl, re, qu, ba, fe, tx⟩ ≠ 0) :
    Calls Try.prog 4 #[.agg #[.int .i64 sl, .int .u64 ge, .int .i64 cl, .int .i64 re, .int .i64 qu, .int .i64 ba, .int .i64 fe, .string tx]] w fun e w' => e = .returned (.bool true) ∧ Below w.heap.size w w' := by
  have hm : tx.size ≤ 1000000 := by omega
  have hp := fun w => place_bad ⟨sl, ge, cl, re, qu, ba, fe, tx⟩ w hm h
  generalize ckE ⟨sl, ge, cl, re, qu, ba, fe, tx⟩ = k at h hp
  have hb : (k != 0) = true := by rw [bne_iff_ne]; exact h
  simp only [Cf.v, layZ] at hp
  have HP := hid hp
  clear hp h
  have d0 : decide ((300 : Int) < tx.size) = false := by simp; omega
  go_enter Try.func4, Try.ntmps4
  go_wp2_with fail
  refine (HP.out _).mono ?_
  rintro e w1 ⟨rfl, hb1⟩
  have hsz := hb1.size
  simp only [World.size_alloc] at hsz
  go_wp2_with fail
  go_ret
  exact ⟨by first | rfl | simp, (((Below.refl _ _).alloc (Nat.le_refl _) _).trans (hb1.mono (by simp))).alloc (by omega) _⟩
theorem layout_none (sl ge cl re qu ba fe : Int) (tx : ByteArray) (w : World) (hs : 300 < tx.size) :
    Calls Try.prog 4 #[.agg #[.int .i64 sl, .int .u64 ge, .int .i64 cl, .int .i64 re, .int .i64 qu, .int .i64 ba, .int .i64 fe, .string tx]] w fun e w' => e = .returned (.bool true) ∧ Below w.heap.size w w' := by
  go_enter Try.func4, Try.ntmps4
  go_wp2_with fail
  go_ret
  exact ⟨rfl, (Below.refl _ _).alloc (Nat.le_refl _) _⟩
theorem layout_walk (vs : List Value) (w : World) (h : FitsS [some (some .i64), some (some .u64), some (some .i64), some (some .i64), some (some .i64), some (some .i64), some (some .i64), none] vs) :
    Calls Try.prog 4 #[.agg vs.toArray] w fun e w' => e = .returned (.bool true) ∧ Below w.heap.size w w' := by
  obtain ⟨⟨sl, ge, cl, re, qu, ba, fe, tx⟩, hv, hz⟩ := cf_of_fits h
  rw [hv]
  by_cases h1 : 300 < tx.size
  · exact layout_none sl ge cl re qu ba fe tx w h1
  · by_cases hk : ckE ⟨sl, ge, cl, re, qu, ba, fe, tx⟩ = 0
    · exact layout_ok sl ge cl re qu ba fe tx w (by omega) hk
    · exact layout_bad sl ge cl re qu ba fe tx w (by omega) hk
end Go.Proofs.Ytgbmipglahebpaa
