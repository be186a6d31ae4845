/- The bank's log; slices compared. -/
import Derived.Test.YtonjbofdmmnpdaaCellD
import Derived.Laws.CopyOwn
namespace Go.Proofs.Ytonjbofdmmnpdaa
open Go.RowKit
set_option linter.unusedVariables false
set_option linter.unusedSimpArgs false

/-- Where a log is cut: min(max(from, 0), n). -/
def cutAt (f : Int) (n : Nat) : Nat := if f ≤ 0 then 0 else if (n : Int) ≤ f then n else f.toNat
theorem cutAt_le (f : Int) (n : Nat) : cutAt f n ≤ n := by unfold cutAt; split <;> (try split) <;> omega

theorem logCells_drop (l : List Acc) (i : Nat) : (logCells l).drop (i * 6) = logCells (l.drop i) := by
  induction l generalizing i with
  | nil => simp [logCells]
  | cons x l ih =>
    cases i with
    | zero => simp [logCells]
    | succ i =>
      have : (i + 1) * 6 = x.cells.length + i * 6 := by simp [Acc.cells]; omega
      simp only [List.drop_succ_cons]
      rw [← ih i]
      simp only [logCells, List.flatMap_cons]
      rw [this, ← List.drop_drop, List.drop_left]
theorem acc_one (l : List Acc) : ∀ u ∈ logCells l, u.oneCell' = true := by
  intro u hu
  simp only [logCells, List.mem_flatMap] at hu
  obtain ⟨x, _, hu⟩ := hu
  simp [Acc.cells] at hu
  rcases hu with rfl | rfl | rfl | rfl | rfl | rfl <;> rfl

/-- A slice of accesses that the call made: a block of its own, full. -/
def Accs (w w' : World) (l : List Acc) (e : Ending) : Prop := ∃ b, e = .returned (.slice (some ⟨b, 0, none⟩) l.length l.length) ∧ Blk w' b 120 (logCells l).toArray ∧ Ch (fun _ => False) w w' ∧ w.heap.size ≤ b

theorem run_max0 {P : Program} (tys : Array TypeId) (t : TypeId) (f : Int) (w : World) : (Builtin.max_ tys t #[.int .i64 f, .int .i64 0]).run P w = .ok (.int .i64 (f.toNat : Int)) w := by
  simp only [Builtin.max_, List.foldlM_cons, List.foldlM_nil, Builtin.max2]
  simp
  omega
theorem run_min {P : Program} (tys : Array TypeId) (t : TypeId) (m n : Nat) (w : World) : (Builtin.min_ tys t #[.int .i64 (m : Int), .int .i64 (n : Int)]).run P w = .ok (.int .i64 ((min m n : Nat) : Int)) w := by
  simp only [Builtin.min_, List.foldlM_cons, List.foldlM_nil, Builtin.min2]
  simp
  split <;> omega
theorem cutAt_min (f : Int) (n : Nat) : min f.toNat n = cutAt f n := by
  unfold cutAt
  split
  · omega
  · split <;> omega

theorem run_slice_low {P : Program} (t e : TypeId) (size : Nat) (ht : P.underlying t = some (.slice e)) (hz : (P.info? e).map (·.size) = some size) (A : Option Addr) (n cap i : Nat) (hi : i ≤ n) (hc : n ≤ cap) (w : World) :
    (Instr.sliceAt t (.slice A n cap) (some (.int .i64 (i : Int))) none none).run P w = .ok (.slice (if cap = i then A else A.map (·.add (i * size))) (n - i) (cap - i)) w := by
  cases hq : P.info? e with
  | none => simp [hq] at hz
  | some inf =>
    have hsz : inf.size = size := by simpa [hq] using hz
    have h1 : (0 : Int) ≤ (i : Int) ∧ (i : Int) ≤ (n : Int) := by omega
    simp only [Instr.sliceAt, Sem.run_bind, run_underlying ht, Result.andThen_ok, Instr.slice, Instr.sliceBounds, Instr.sliceBound, asIntOf, Sem.run_pure, h1, and_self, if_true, Int.toNat_natCast, sizeOf, typeInfo, hq]
    simp [program, Sem.run, hq, hsz]

set_option maxRecDepth 100000 in
set_option maxHeartbeats 1000000 in
theorem log_any (B p cb : Nat) (lv : Value) (s : BS) (f : Int) (w : World) (h : Bank B w p cb lv s.vs s.lg) (hlen : s.lg.length < 1000000) :
    Calls Try.prog 51 #[.pointer (some ⟨p, 0, none⟩), .int .i64 f] w fun e w' => Accs w w' (s.lg.drop (cutAt f s.lg.length)) e := by
  have hown := h.hl
  obtain ⟨A, cap, rfl, hcap⟩ := own_slice h.hl
  have h1 := h.hp.cell 1
  simp only [List.getElem?_toArray, List.getElem?_cons_zero, List.getElem?_cons_succ] at h1
  obtain ⟨i, hi⟩ : ∃ i, i = cutAt f s.lg.length := ⟨_, rfl⟩
  have hil : i ≤ s.lg.length := by rw [hi]; exact cutAt_le _ _
  rw [← hi]
  have hmin := fun w => run_min (P := Try.prog) #[3, 3] 3 f.toNat s.lg.length w
  rw [cutAt_min, ← hi] at hmin
  have hsl := run_slice_low (P := Try.prog) 79 120 6 Try.underlying79 (by kernel_rfl) A s.lg.length cap i hil hcap
  obtain ⟨A', hA'⟩ : ∃ A', A' = (if cap = i then A else A.map (·.add (i * 6))) := ⟨_, rfl⟩
  rw [← hA'] at hsl
  obtain ⟨m, hm⟩ : ∃ m, m = s.lg.length - i := ⟨_, rfl⟩
  rw [← hm] at hsl
  obtain ⟨c', hc'⟩ : ∃ c', c' = cap - i := ⟨_, rfl⟩
  rw [← hc'] at hsl
  have hmk := fun w => run_make_x (P := Try.prog) 79 120 _ 6 48 Try.underlying79 Try.infoAcc (by decide) m (by omega) w
  have Hi := hid hi
  have HA := hid hA'
  have Hm := hid hm
  have Hmin := hid hmin
  have Hsl := hid hsl
  clear hi hA' hm hc' hmin hsl
  go_enter Try.func51, Try.ntmps51
  go_wp2_with fail
  refine Mix.wp_region_mix (fun _ => True) (fun i => ([0, 0, 0, 0, 0, 0, 0, 0, 0, 0, 0, 0, 0, 0] : List Nat).getD i 0) [0, 1, 2, 3, 4, 5, 6, 7, 8, 9, 10, 11, 12, 13] (by kernel_rfl) (by kernel_rfl) ?_
  iterate 5 (refine Mix.mix_q (by simp only [List.getElem?_toArray, List.getElem?_cons_zero, List.getElem?_cons_succ]; exact rfl) rfl ?_; go_big_quiet_step (fail); refine wpQuiet_nil ?_)
  refine Mix.mix_v (by simp only [List.getElem?_toArray, List.getElem?_cons_zero, List.getElem?_cons_succ]; exact rfl) rfl (.int .i64 (f.toNat : Int)) rfl (fun W _ => Mix.exec_builtin2 (f := Builtin.max_) rfl (fun _ _ => rfl) rfl rfl (run_max0 _ _ f W)) ?_
  simp only [Act.put, List.setIfInBounds_toArray, List.set_cons_succ, List.set_cons_zero]
  iterate 5 (refine Mix.mix_q (by simp only [List.getElem?_toArray, List.getElem?_cons_zero, List.getElem?_cons_succ]; exact rfl) rfl ?_; go_big_quiet_step (fail); refine wpQuiet_nil ?_)
  refine Mix.mix_v (by simp only [List.getElem?_toArray, List.getElem?_cons_zero, List.getElem?_cons_succ]; exact rfl) rfl (.int .i64 (i : Int)) rfl (fun W _ => Mix.exec_builtin2 (f := Builtin.min_) rfl (fun _ _ => rfl) rfl rfl (Hmin.out W)) ?_
  simp only [Act.put, List.setIfInBounds_toArray, List.set_cons_succ, List.set_cons_zero]
  refine Mix.mix_v (by simp only [List.getElem?_toArray, List.getElem?_cons_zero, List.getElem?_cons_succ]; exact rfl) rfl (.slice A' m c') rfl (fun W _ => Mix.exec_slice_low rfl rfl rfl (Hsl.out W)) ?_
  simp only [Act.put, List.setIfInBounds_toArray, List.set_cons_succ, List.set_cons_zero]
  (refine Mix.mix_q (by simp only [List.getElem?_toArray, List.getElem?_cons_zero, List.getElem?_cons_succ]; exact rfl) rfl ?_; go_big_quiet_step (fail); refine wpQuiet_nil ?_)
  intro nq
  have hsz6 : (Try.prog.info? 120).map (·.size) = some 6 := by kernel_rfl
  go_wp2_with (refine wpList_copy_full rfl (.tmp 25) (.tmp 26) 79 79 rfl 120 Try.underlying79 6 hsz6 w.heap.size m m A' c' rfl rfl (madeX #[.int .i64 0, .int .i64 0, .int .u8 0, .int .u64 0, .int .u64 0, .bool false] (m * 6)) 120 ?k1 ?k2 (logCells (s.lg.drop i)) ?k3 ?k4 (acc_one _) ?k5)
  case k1 => exact Blk.push rfl
  case k2 => exact madeX_size _ _
  case k3 => rw [logCells_length, List.length_drop, Hm.out]
  case k4 =>
    intro h0
    have hm' := Hm.out
    obtain ⟨g, cap', hv, _, _, _, hg⟩ := own_form hown (by omega)
    injection hv with hA1 _ hc1
    subst hA1
    have hne : ¬ cap = i := by omega
    refine ⟨⟨g, i * 6, none⟩, by rw [HA.out, if_neg hne, Option.map_some, addr_add0], fun j u hu => ?_⟩
    rw [addr_add]
    rw [← logCells_drop, List.getElem?_drop] at hu
    have := hown.cells (g := g) rfl _ u hu
    rw [addr_add0] at this
    exact (World.cell?_alloc_lt w _ _ hg).trans this
  case k5 =>
    intro w' hb hc
    go_wp2_with fail
    go_ret
    refine ⟨w.heap.size, by rw [List.length_drop, ← Hm.out]; rfl, hb, ?_, Nat.le_refl _⟩
    exact (((Ch.refl (fun _ => False) w).alloc _).drewN nq).trans hc (fun i hi h => absurd h (by omega))

/-- Two slices of words are compared. -/
def SameWords (w : World) (a : Option Addr) (n : Nat) (xs : List Int) : Prop := xs.length = n ∧ (0 < n → ∃ b off, a = some ⟨b, off, none⟩ ∧ ∀ i, i < n → w.cell? ⟨b, off + i, none⟩ = some (.int .u64 (lk xs i)))

theorem lk_ext {xs ys : List Int} (hl : xs.length = ys.length) (h : ∀ i, i < xs.length → lk xs i = lk ys i) : xs = ys := by
  apply List.ext_getElem hl
  intro i h1 h2
  have := h i h1
  simpa [lk, h1, h2] using this

set_option maxHeartbeats 1000000 in
theorem eqWords_any (a b : Option Addr) (n ca m cb : Nat) (xs ys : List Int) (w : World) (ha : SameWords w a n xs) (hb : SameWords w b m ys) (hn : n < 1000000) :
    Calls Try.prog 48 #[.slice a n ca, .slice b m cb] w fun e w' => e = .returned (.bool (decide (xs = ys))) ∧ ∃ k, w' = w.drewN k := by
  by_cases hnm : n = m
  · subst hnm
    have hne : ((n : Int) != (n : Int)) = false := by simp
    go_enter Try.func48, Try.ntmps48
    go_wp2_with fail
    go_loopw [5] (fun i wr => ∃ k : Nat, k ≤ n ∧ i = .int .i64 k ∧ (∀ j, j < k → lk xs j = lk ys j) ∧ ∃ d, wr = w.drewN d) (fun i _ => n - (intOf i).toNat)
    case atStart => exact ⟨0, Nat.zero_le _, rfl, fun j hj => absurd hj (by omega), 0, rfl⟩
    case round =>
      obtain ⟨k, hk, rfl, hsame, d, rfl⟩ := hrel
      by_cases hlt : k < n
      · obtain ⟨b1, o1, rfl, h1⟩ := ha.2 (by omega)
        obtain ⟨b2, o2, rfl, h2⟩ := hb.2 (by omega)
        have c1 := h1 k hlt
        have c2 := h2 k hlt
        have Hs := hid hsame
        clear h1 h2 hsame
        by_cases he : lk xs k = lk ys k
        · have he' : (lk xs k != lk ys k) = false := by simpa using he
          have He := hid he
          clear he
          go_wp2_with fail
          go_quiet (fail)
          go_wp2_with fail
          go_roundw
          case rel => exact ⟨k + 1, by omega, by go_num, fun j hj => by by_cases h : j = k; · rw [h]; exact He.out
                                                                        · exact Hs.out j (by omega), _, rfl⟩
          case measure => simp [intOf]; omega
        · have he' : (lk xs k != lk ys k) = true := by simpa using he
          go_wp2_with fail
          go_quiet (fail)
          go_wp2_with fail
          go_ret
          have hxy : ¬ xs = ys := fun h => he (by rw [h])
          exact ⟨by simp [hxy], _, World.drewN_drewN _ _ _⟩
      · have : k = n := by omega
        subst this
        have Hs := hid hsame
        clear hsame
        go_wp2_with fail
        go_ret
        have hxy : xs = ys := lk_ext (by rw [ha.1, hb.1]) (fun i hi => Hs.out i (by rw [ha.1] at hi; exact hi))
        exact ⟨by simp [hxy], _, rfl⟩
  · have hne : ((n : Int) != (m : Int)) = true := by rw [bne_iff_ne]; omega
    go_enter Try.func48, Try.ntmps48
    go_wp2_with fail
    go_ret
    have hxy : ¬ xs = ys := fun h => hnm (by rw [← ha.1, ← hb.1, h])
    exact ⟨by simp [hxy], 0, rfl⟩
end Go.Proofs.Ytonjbofdmmnpdaa
