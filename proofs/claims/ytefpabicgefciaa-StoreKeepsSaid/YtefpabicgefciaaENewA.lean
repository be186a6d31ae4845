/- epoch.New and the reference's. -/
import Derived.Test.YtefpabicgefciaaBothA
namespace Go.Proofs.Ytefpabicgefciaa
open Go.RowKit
set_option linter.unusedVariables false
set_option linter.unusedSimpArgs false

theorem blk_new2 (w : World) (o : Obj) (t : TypeId) (cs : Array Value) : Blk ((w.alloc o).alloc (.cells cs t)) (w.heap.size + 1) t cs := by
  have h := Blk.new (w.alloc o) t cs
  simpa using h

theorem nz_any (v : Int) (w : World) : Calls Try.prog 29 #[.int .u64 v] w fun e w' => e = .returned (.bool (v != 0)) ∧ w = w' := by
  go_enter Try.func29, Try.ntmps29
  go_wp2_with fail
  go_ret
  exact ⟨rfl, rfl⟩

/-- The place of the first word that is not 0. -/
theorem idxf_any (g off n c : Nat) (f : Nat → Int) (w : World) (h : ∀ i, i < n → w.cell? ⟨g, off + i, none⟩ = some (.int .u64 (f i))) (hn : n ≤ 1000000) :
    Calls Try.prog 41 #[.slice (some ⟨g, off, none⟩) n c, .func (.func 29) #[] #[]] w fun e w' => ∃ r : Int, e = .returned (.int .i64 r) ∧ ((∀ i, i < n → f i = 0) ∧ r = -1 ∨ (∃ i, i < n ∧ f i ≠ 0) ∧ 0 ≤ r) ∧ w = w' := by
  have H := hid h
  clear h
  go_enter Try.func41, Try.ntmps41
  go_wp2_with fail
  go_loopw [8] (fun i wr => ∃ k : Nat, k ≤ n ∧ i = .int .i64 k ∧ wr = w ∧ ∀ j : Nat, j < k → f j = 0) (fun i _ => n - (intOf i).toNat)
  case atStart => exact ⟨0, Nat.zero_le _, rfl, rfl, fun j hj => absurd hj (Nat.not_lt_zero j)⟩
  case round =>
    obtain ⟨k, hk, rfl, rfl, hinv⟩ := hrel
    have Hinv := hid hinv
    clear hinv
    by_cases hlt : k < n
    · have cv := H.out k hlt
      have d1 : decide (k < n) = true := decide_eq_true hlt
      have d1' : decide ((k : Int) < (n : Int)) = true := decide_eq_true (by omega)
      obtain ⟨x, hx⟩ : ∃ x, x = f k := ⟨_, rfl⟩
      rw [← hx] at cv
      have Hx := hid hx
      clear hx
      by_cases hx0 : x = 0
      · have hxb : (x != 0) = false := by simpa using hx0
        have HX0 := hid hx0
        clear hx0
        go_wp2_with (go_at_call 29; refine (nz_any _ _).mono ?_; rintro e w2 ⟨rfl, rfl⟩)
        go_roundw
        case rel => exact ⟨k + 1, by omega, by go_num, by first | rfl | trivial, fun j hj => by
          by_cases hjk : j < k
          · exact Hinv.out j hjk
          · have : j = k := by omega
            subst this
            rw [← Hx.out]
            exact HX0.out⟩
        case measure => simp [intOf]; omega
      · have hxb : (x != 0) = true := by simpa using hx0
        have HX0 := hid hx0
        clear hx0
        go_wp2_with (go_at_call 29; refine (nz_any _ _).mono ?_; rintro e w2 ⟨rfl, rfl⟩)
        go_ret
        exact ⟨_, rfl, .inr ⟨⟨k, hlt, by rw [← Hx.out]; exact HX0.out⟩, by omega⟩, rfl⟩
    · obtain rfl : k = n := by omega
      have d1 : decide (k < k) = false := decide_eq_false (by omega)
      go_wp2_with fail
      go_ret
      exact ⟨_, rfl, .inl ⟨Hinv.out, rfl⟩, rfl⟩
theorem contf_any (g off n c : Nat) (f : Nat → Int) (w : World) (h : ∀ i, i < n → w.cell? ⟨g, off + i, none⟩ = some (.int .u64 (f i))) (hn : n ≤ 1000000) :
    Calls Try.prog 28 #[.slice (some ⟨g, off, none⟩) n c, .func (.func 29) #[] #[]] w fun e w' => ∃ b : Bool, e = .returned (.bool b) ∧ (b = true ↔ ∃ i, i < n ∧ f i ≠ 0) ∧ w = w' := by
  go_enter Try.func28, Try.ntmps28
  go_wp2_with fail
  refine (idxf_any g off n c f w h hn).mono ?_
  rintro e w2 ⟨r, rfl, hr, rfl⟩
  have HR := hid hr
  by_cases h0 : 0 ≤ r
  · have d0 : decide (0 ≤ r) = true := decide_eq_true h0
    clear hr
    go_wp2_with fail
    go_ret
    refine ⟨true, rfl, ⟨fun _ => ?_, fun _ => rfl⟩, rfl⟩
    rcases HR.out with ⟨_, e⟩ | ⟨e, _⟩
    · omega
    · exact e
  · have d0 : decide (0 ≤ r) = false := decide_eq_false h0
    clear hr
    go_wp2_with fail
    go_ret
    refine ⟨false, rfl, ⟨fun e => (by cases e), fun ⟨i, hi, hf⟩ => ?_⟩, rfl⟩
    rcases HR.out with ⟨e, _⟩ | ⟨_, e⟩
    · exact absurd (e i hi) hf
    · omega

open Classical in
/-- The error of New. -/
noncomputable def eerr (vs : List Int) (ep sl n : Int) : Int :=
  if n < 0 ∨ 64 < n then 2
  else if ¬ ((0 ≤ ep ∧ ep < vs.length) ∧ (n = 0 ∨ (0 ≤ sl ∧ sl ≤ vs.length - n))) then 3
  else if 0 < n ∧ sl ≤ ep ∧ ep < sl + n then 9
  else if lk vs ep.toNat ≠ 0 ∨ (∃ j : Nat, sl ≤ j ∧ (j : Int) < sl + n ∧ lk vs j ≠ 0) then 8
  else 0

/-- What New leaves: an error, or an epoch and its list. -/
def EOut (k : Int) (w w' : World) (t te : TypeId) (cs : Nat → Array Value) (z : Array Value) (e : Ending) : Prop :=
  Ch (fun _ => False) w w' ∧ ((k ≠ 0 ∧ e = .returned (.tuple #[.pointer none, .int .i64 k])) ∨ (k = 0 ∧ ∃ q pb, w.heap.size ≤ q ∧ w.heap.size ≤ pb ∧ e = .returned (.tuple #[.pointer (some ⟨q, 0, none⟩), .int .i64 0]) ∧ Blk w' q t (cs pb) ∧ Blk w' pb te z))
def REOut (k n sl0 : Int) (w w' : World) (t te : TypeId) (cs : Int → Nat → Array Value) (z : Array Value) (e : Ending) : Prop :=
  Ch (fun _ => False) w w' ∧ ((k ≠ 0 ∧ e = .returned (.tuple #[.pointer none, .int .i64 k])) ∨ (k = 0 ∧ ∃ (sl : Int) (q pb : Nat), w.heap.size ≤ q ∧ w.heap.size ≤ pb ∧ e = .returned (.tuple #[.pointer (some ⟨q, 0, none⟩), .int .i64 0]) ∧ Blk w' q t (cs sl pb) ∧ Blk w' pb te z ∧ (n = 0 ∨ sl = sl0)))

theorem run_slice_both {P : Program} (t e : TypeId) (ht : P.underlying t = some (.slice e)) (hz : (P.info? e).map (·.size) = some 1) (g n cap i m : Nat) (hi : i + m ≤ cap) (hlt : i < cap) (w : World) :
    (Instr.sliceAt t (.slice (some ⟨g, 0, none⟩) n cap) (some (.int .i64 (i : Int))) (some (.int .i64 ((i : Int) + (m : Int)))) none).run P w = .ok (.slice (some ⟨g, i, none⟩) m (cap - i)) w := by
  cases hq : P.info? e with
  | none => simp [hq] at hz
  | some inf =>
    have hsz : inf.size = 1 := by simpa [hq] using hz
    have h0 : (0 : Int) ≤ (i : Int) ∧ (i : Int) ≤ (i : Int) + (m : Int) := by omega
    have h1 : (0 : Int) ≤ (i : Int) + (m : Int) ∧ (i : Int) + (m : Int) ≤ (cap : Int) := by omega
    have e1 : ((i : Int) + (m : Int)).toNat = i + m := by omega
    have e2 : i + m - i = m := by omega
    have e3 : ¬ cap = i := by omega
    simp only [Instr.sliceAt, Sem.run_bind, run_underlying ht, Result.andThen_ok, Instr.slice, Instr.sliceBounds, Instr.sliceBound, asIntOf, Sem.run_pure, h0, h1, and_self, if_true, Int.toNat_natCast, sizeOf, typeInfo, hq]
    simp [program, Sem.run, hq, hsz, e1, e2, e3, Addr.add]
    all_goals (try (split <;> simp_all))
    all_goals omega

set_option maxRecDepth 100000 in
set_option maxHeartbeats 8000000 in
theorem enew_any (B p cb : Nat) (lv : Value) (s : BS) (ep sl n : Int) (w : World) (h : Bank B w p cb lv s.vs s.lg) (hLn : s.vs.length ≤ 4096) :
    Calls Try.prog 16 #[.pointer (some ⟨p, 0, none⟩), .int .i64 ep, .int .i64 sl, .int .i64 n] w fun e w' => EOut (eerr s.vs ep sl n) w w' 118 225 (fun pb => #[.pointer (some ⟨p, 0, none⟩), .int .i64 ep, .int .i64 sl, .int .i64 n, .slice (some ⟨pb, 0, none⟩) n.toNat n.toNat, .pointer none]) (madeX #[.pointer none] n.toNat) e := by
  obtain ⟨L, hL⟩ : ∃ L, L = s.vs.length := ⟨_, rfl⟩
  rw [← hL] at hLn
  go_enter Try.func16, Try.ntmps16
  by_cases g1 : n < 0
  · have dn : decide (n < 0) = true := decide_eq_true (by omega)
    have hq : eerr s.vs ep sl n = 2 := by
      unfold eerr
      rw [← hL]
      rw [if_pos (by omega)]
    have HQ := hid hq
    clear hq
    go_wp2_with fail
    go_ret2
    exact ⟨Ch.refl _ _, .inl ⟨by rw [HQ.out]; decide, by rw [HQ.out]; rfl⟩⟩
  · have dn : decide (n < 0) = false := decide_eq_false (by omega)
    by_cases g2 : 64 < n
    · have dn2 : decide (64 < n) = true := decide_eq_true (by omega)
      have hq : eerr s.vs ep sl n = 2 := by
        unfold eerr
        rw [← hL]
        rw [if_pos (by omega)]
      have HQ := hid hq
      clear hq
      go_wp2_with fail
      go_ret2
      exact ⟨Ch.refl _ _, .inl ⟨by rw [HQ.out]; decide, by rw [HQ.out]; rfl⟩⟩
    · have dn2 : decide (64 < n) = false := decide_eq_false (by omega)
      obtain ⟨n, rfl⟩ := Int.eq_ofNat_of_zero_le (by omega : 0 ≤ n)
      go_wp2_with fail
      refine (values_any B p cb lv s w h).mono ?_
      rintro e w1 ⟨gv, rfl, hval, cw, hgv⟩
      have Hval := hid hval
      rw [← hL]
      have HL := hid hL
      clear hL hval h
      by_cases e1 : ep < 0
      · have d3 : decide (ep < 0) = true := decide_eq_true (by omega)
        have hq : eerr s.vs ep sl n = 3 := by
          unfold eerr
          rw [← HL.out]
          rw [if_neg (by omega), if_pos (by omega)]
        have HQ := hid hq
        clear hq
        go_wp2_with fail
        go_ret2
        exact ⟨cw, .inl ⟨by rw [HQ.out]; decide, by rw [HQ.out]; rfl⟩⟩
      · obtain ⟨ep, rfl⟩ := Int.eq_ofNat_of_zero_le (by omega : 0 ≤ ep)
        by_cases e2 : L ≤ ep
        · have d4 : decide (L ≤ ep) = true := decide_eq_true (by omega)
          have d4i : decide ((L : Int) ≤ ep) = true := decide_eq_true (by omega)
          have hq : eerr s.vs ep sl n = 3 := by
            unfold eerr
            rw [← HL.out]
            rw [if_neg (by omega), if_pos (by omega)]
          have HQ := hid hq
          clear hq
          go_wp2_with fail
          go_ret2
          exact ⟨cw, .inl ⟨by rw [HQ.out]; decide, by rw [HQ.out]; rfl⟩⟩
        · have d4 : decide (L ≤ ep) = false := decide_eq_false (by omega)
          have d4i : decide ((L : Int) ≤ ep) = false := decide_eq_false (by omega)
          by_cases n0 : n = 0
          · have d0 : decide (0 < n) = false := decide_eq_false (by omega)
            have d0i : decide ((0 : Int) < (n : Int)) = false := decide_eq_false (by omega)
            have hn0 : n ≤ 0 := by omega
            clear n0
            obtain ⟨ze, hze⟩ : ∃ z, z = lk s.vs ep := ⟨_, rfl⟩
            have cve := (Hval.out.cell ep).trans (u64s_getD s.vs ep (by have := HL.out; omega))
            rw [← hze] at cve
            have Hze := hid hze
            clear hze
            by_cases ze0 : ze = 0
            · subst ze0
              have hq : eerr s.vs ep sl n = 0 := by
                unfold eerr
                rw [← HL.out]
                rw [if_neg (by omega), if_neg (by omega), if_neg (by omega), if_neg (fun hc => hc.elim (fun e => e (by rw [Int.toNat_natCast]; exact Hze.out.symm)) (fun ⟨j, h1, h2, _⟩ => by omega))]
              have HQ := hid hq
              clear hq
              have hmk : ∀ W : World, (Instr.makeSlice 115 (.int .i64 (n : Int)) (.int .i64 (n : Int))).run Try.prog W = .ok (.slice (some ⟨W.heap.size, 0, none⟩) n n) (W.alloc (.cells (madeX (Value.cells (.pointer none)) (n * 1)) 225)) := fun W => run_make_x (P := Try.prog) 115 225 (.pointer none) 1 8 Try.underlying115 (by kernel_rfl) (by decide) n (by omega) W
              go_wp2_with fail
              go_ret2
              exact ⟨(cw.alloc _).alloc _, .inr ⟨HQ.out, _, _, Nat.le_trans cw.size (by simp), cw.size, rfl, (by first | exact blk_new2 _ _ _ _ | (simp only [Int.toNat_natCast]; exact blk_new2 _ _ _ _)), (by first | exact (Blk.new w1 _ _).alloc _ | (simp only [Int.toNat_natCast]; exact (Blk.new w1 _ _).alloc _))⟩⟩
            · have hxb : (ze != 0) = true := by simpa using ze0
              have hq : eerr s.vs ep sl n = 8 := by
                unfold eerr
                rw [← HL.out]
                rw [if_neg (by omega), if_neg (by omega), if_neg (by omega), if_pos (.inl (by rw [Int.toNat_natCast, ← Hze.out]; exact ze0))]
              have HQ := hid hq
              clear hq
              go_wp2_with fail
              go_ret2
              exact ⟨cw, .inl ⟨by rw [HQ.out]; decide, by rw [HQ.out]; rfl⟩⟩
          · have d0 : decide (0 < n) = true := decide_eq_true (by omega)
            have d0i : decide ((0 : Int) < (n : Int)) = true := decide_eq_true (by omega)
            by_cases u1 : sl < 0
            · have d5 : decide (sl < 0) = true := decide_eq_true (by omega)
              have hq : eerr s.vs ep sl n = 3 := by
                unfold eerr
                rw [← HL.out]
                rw [if_neg (by omega), if_pos (by omega)]
              have HQ := hid hq
              clear hq
              go_wp2_with fail
              go_ret2
              exact ⟨cw, .inl ⟨by rw [HQ.out]; decide, by rw [HQ.out]; rfl⟩⟩
            · obtain ⟨sl, rfl⟩ := Int.eq_ofNat_of_zero_le (by omega : 0 ≤ sl)
              by_cases u2 : L ≤ sl
              · have d6 : decide (L ≤ sl) = true := decide_eq_true (by omega)
                have d6i : decide ((L : Int) ≤ sl) = true := decide_eq_true (by omega)
                have hq : eerr s.vs ep sl n = 3 := by
                  unfold eerr
                  rw [← HL.out]
                  rw [if_neg (by omega), if_pos (by omega)]
                have HQ := hid hq
                clear hq
                go_wp2_with fail
                go_ret2
                exact ⟨cw, .inl ⟨by rw [HQ.out]; decide, by rw [HQ.out]; rfl⟩⟩
              · have d6 : decide (L ≤ sl) = false := decide_eq_false (by omega)
                have d6i : decide ((L : Int) ≤ sl) = false := decide_eq_false (by omega)
                by_cases t0 : L - sl < n
                · have d7 : decide ((L : Int) - sl < n) = true := decide_eq_true (by omega)
                  have hwl : wrap64 ((L : Int) - sl) = (L : Int) - sl := by unfold wrap64; omega
                  have d7w : decide (wrap64 ((L : Int) - sl) < n) = true := decide_eq_true (by rw [hwl]; omega)
                  have d7b : decide ((L : Int) < n + sl) = true := decide_eq_true (by omega)
                  have d7c : decide ((L : Int) < sl + n) = true := decide_eq_true (by omega)
                  have d7n : decide (L < n + sl) = true := decide_eq_true (by omega)
                  have d7m : decide (L < sl + n) = true := decide_eq_true (by omega)
                  have hq : eerr s.vs ep sl n = 3 := by
                    unfold eerr
                    rw [← HL.out]
                    rw [if_neg (by omega), if_pos (by omega)]
                  have HQ := hid hq
                  clear hq
                  go_wp2_with fail
                  go_ret2
                  exact ⟨cw, .inl ⟨by rw [HQ.out]; decide, by rw [HQ.out]; rfl⟩⟩
                · have d7 : decide ((L : Int) - sl < n) = false := decide_eq_false (by omega)
                  have hwl : wrap64 ((L : Int) - sl) = (L : Int) - sl := by unfold wrap64; omega
                  have d7w : decide (wrap64 ((L : Int) - sl) < n) = false := decide_eq_false (by rw [hwl]; omega)
                  have d7b : decide ((L : Int) < n + sl) = false := decide_eq_false (by omega)
                  have d7c : decide ((L : Int) < sl + n) = false := decide_eq_false (by omega)
                  have d7n : decide (L < n + sl) = false := decide_eq_false (by omega)
                  have d7m : decide (L < sl + n) = false := decide_eq_false (by omega)
                  by_cases t1 : sl ≤ ep
                  · have d9 : decide (sl ≤ ep) = true := decide_eq_true (by omega)
                    have d9i : decide ((sl : Int) ≤ ep) = true := decide_eq_true (by omega)
                    have hws : wrap64 ((sl : Int) + n) = (sl : Int) + n := by unfold wrap64; omega
                    by_cases t2 : ep < sl + n
                    · have d10 : decide (ep < sl + n) = true := decide_eq_true (by omega)
                      have d10i : decide ((ep : Int) < sl + n) = true := decide_eq_true (by omega)
                      have hq : eerr s.vs ep sl n = 9 := by
                        unfold eerr
                        rw [← HL.out]
                        rw [if_neg (by omega), if_neg (by omega), if_pos (by omega)]
                      have HQ := hid hq
                      clear hq
                      go_wp2_with fail
                      go_ret2
                      exact ⟨cw, .inl ⟨by rw [HQ.out]; decide, by rw [HQ.out]; rfl⟩⟩
                    · have d10 : decide (ep < sl + n) = false := decide_eq_false (by omega)
                      have d10i : decide ((ep : Int) < sl + n) = false := decide_eq_false (by omega)
                      obtain ⟨ze, hze⟩ : ∃ z, z = lk s.vs ep := ⟨_, rfl⟩
                      have cve := (Hval.out.cell ep).trans (u64s_getD s.vs ep (by have := HL.out; omega))
                      rw [← hze] at cve
                      have Hze := hid hze
                      clear hze
                      by_cases ze0 : ze = 0
                      · subst ze0
                        go_wp2_with fail
                        refine (contf_any gv sl n (L - sl) (fun i => lk s.vs (sl + i)) w1 (fun i hi => (Hval.out.cell (sl + i)).trans (u64s_getD s.vs (sl + i) (by have := HL.out; omega))) (by omega)).mono ?_
                        rintro e w2 ⟨bb, rfl, hbb, rfl⟩
                        have Hbb := hid hbb
                        clear hbb
                        cases bb
                        · have hq : eerr s.vs ep sl n = 0 := by
                            unfold eerr
                            rw [← HL.out]
                            rw [if_neg (by omega), if_neg (by omega), if_neg (by omega), if_neg (fun hc => hc.elim (fun e => e (by rw [Int.toNat_natCast]; exact Hze.out.symm)) (fun ⟨j, h1, h2, h3⟩ => h3 (by have := ((fun k hk => Classical.byContradiction fun hne => by have := Hbb.out.2 ⟨k, hk, hne⟩; cases this)) (j - sl) (by omega); rwa [show sl + (j - sl) = j by omega] at this)))]
                          have HQ := hid hq
                          clear hq
                          have hmk : ∀ W : World, (Instr.makeSlice 115 (.int .i64 (n : Int)) (.int .i64 (n : Int))).run Try.prog W = .ok (.slice (some ⟨W.heap.size, 0, none⟩) n n) (W.alloc (.cells (madeX (Value.cells (.pointer none)) (n * 1)) 225)) := fun W => run_make_x (P := Try.prog) 115 225 (.pointer none) 1 8 Try.underlying115 (by kernel_rfl) (by decide) n (by omega) W
                          go_wp2_with fail
                          go_ret2
                          exact ⟨(cw.alloc _).alloc _, .inr ⟨HQ.out, _, _, Nat.le_trans cw.size (by simp), cw.size, rfl, (by first | exact blk_new2 _ _ _ _ | (simp only [Int.toNat_natCast]; exact blk_new2 _ _ _ _)), (by first | exact (Blk.new w1 _ _).alloc _ | (simp only [Int.toNat_natCast]; exact (Blk.new w1 _ _).alloc _))⟩⟩
                        · have hq : eerr s.vs ep sl n = 8 := by
                            unfold eerr
                            rw [← HL.out]
                            rw [if_neg (by omega), if_neg (by omega), if_neg (by omega), if_pos (.inr (by obtain ⟨k, h1, h2⟩ := Hbb.out.1 rfl; exact ⟨sl + k, by omega, by omega, h2⟩))]
                          have HQ := hid hq
                          clear hq
                          go_wp2_with fail
                          go_ret2
                          exact ⟨cw, .inl ⟨by rw [HQ.out]; decide, by rw [HQ.out]; rfl⟩⟩
                      · have hxb : (ze != 0) = true := by simpa using ze0
                        have hq : eerr s.vs ep sl n = 8 := by
                          unfold eerr
                          rw [← HL.out]
                          rw [if_neg (by omega), if_neg (by omega), if_neg (by omega), if_pos (.inl (by rw [Int.toNat_natCast, ← Hze.out]; exact ze0))]
                        have HQ := hid hq
                        clear hq
                        go_wp2_with fail
                        go_ret2
                        exact ⟨cw, .inl ⟨by rw [HQ.out]; decide, by rw [HQ.out]; rfl⟩⟩
                  · have d9 : decide (sl ≤ ep) = false := decide_eq_false (by omega)
                    have d9i : decide ((sl : Int) ≤ ep) = false := decide_eq_false (by omega)
                    obtain ⟨ze, hze⟩ : ∃ z, z = lk s.vs ep := ⟨_, rfl⟩
                    have cve := (Hval.out.cell ep).trans (u64s_getD s.vs ep (by have := HL.out; omega))
                    rw [← hze] at cve
                    have Hze := hid hze
                    clear hze
                    by_cases ze0 : ze = 0
                    · subst ze0
                      go_wp2_with fail
                      refine (contf_any gv sl n (L - sl) (fun i => lk s.vs (sl + i)) w1 (fun i hi => (Hval.out.cell (sl + i)).trans (u64s_getD s.vs (sl + i) (by have := HL.out; omega))) (by omega)).mono ?_
                      rintro e w2 ⟨bb, rfl, hbb, rfl⟩
                      have Hbb := hid hbb
                      clear hbb
                      cases bb
                      · have hq : eerr s.vs ep sl n = 0 := by
                          unfold eerr
                          rw [← HL.out]
                          rw [if_neg (by omega), if_neg (by omega), if_neg (by omega), if_neg (fun hc => hc.elim (fun e => e (by rw [Int.toNat_natCast]; exact Hze.out.symm)) (fun ⟨j, h1, h2, h3⟩ => h3 (by have := ((fun k hk => Classical.byContradiction fun hne => by have := Hbb.out.2 ⟨k, hk, hne⟩; cases this)) (j - sl) (by omega); rwa [show sl + (j - sl) = j by omega] at this)))]
                        have HQ := hid hq
                        clear hq
                        have hmk : ∀ W : World, (Instr.makeSlice 115 (.int .i64 (n : Int)) (.int .i64 (n : Int))).run Try.prog W = .ok (.slice (some ⟨W.heap.size, 0, none⟩) n n) (W.alloc (.cells (madeX (Value.cells (.pointer none)) (n * 1)) 225)) := fun W => run_make_x (P := Try.prog) 115 225 (.pointer none) 1 8 Try.underlying115 (by kernel_rfl) (by decide) n (by omega) W
                        go_wp2_with fail
                        go_ret2
                        exact ⟨(cw.alloc _).alloc _, .inr ⟨HQ.out, _, _, Nat.le_trans cw.size (by simp), cw.size, rfl, (by first | exact blk_new2 _ _ _ _ | (simp only [Int.toNat_natCast]; exact blk_new2 _ _ _ _)), (by first | exact (Blk.new w1 _ _).alloc _ | (simp only [Int.toNat_natCast]; exact (Blk.new w1 _ _).alloc _))⟩⟩
                      · have hq : eerr s.vs ep sl n = 8 := by
                          unfold eerr
                          rw [← HL.out]
                          rw [if_neg (by omega), if_neg (by omega), if_neg (by omega), if_pos (.inr (by obtain ⟨k, h1, h2⟩ := Hbb.out.1 rfl; exact ⟨sl + k, by omega, by omega, h2⟩))]
                        have HQ := hid hq
                        clear hq
                        go_wp2_with fail
                        go_ret2
                        exact ⟨cw, .inl ⟨by rw [HQ.out]; decide, by rw [HQ.out]; rfl⟩⟩
                    · have hxb : (ze != 0) = true := by simpa using ze0
                      have hq : eerr s.vs ep sl n = 8 := by
                        unfold eerr
                        rw [← HL.out]
                        rw [if_neg (by omega), if_neg (by omega), if_neg (by omega), if_pos (.inl (by rw [Int.toNat_natCast, ← Hze.out]; exact ze0))]
                      have HQ := hid hq
                      clear hq
                      go_wp2_with fail
                      go_ret2
                      exact ⟨cw, .inl ⟨by rw [HQ.out]; decide, by rw [HQ.out]; rfl⟩⟩

end Go.Proofs.Ytefpabicgefciaa
