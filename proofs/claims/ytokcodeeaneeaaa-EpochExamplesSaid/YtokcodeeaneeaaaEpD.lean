/- Pin, Unpin, Scan, Next, Result. -/
import Derived.Test.YtokcodeeaneeaaaEpC
namespace Go.Proofs.Ytokcodeeaneeaaa
open Go.RowKit
set_option linter.unusedVariables false
set_option linter.unusedSimpArgs false
set_option linter.unusedSectionVars false

/-- The list of pins. -/
def pinV (o : Option Nat) : Value := .pointer (o.map fun g => ⟨g, 0, none⟩)
def pinsA (ps : List (Option Nat)) : Array Value := (ps.map pinV).toArray
theorem pinsA_at {ps : List (Option Nat)} {k : Nat} {o : Option Nat} (h : ps[k]? = some o) : (pinsA ps)[k]? = some (pinV o) := by simp [pinsA, h]
theorem pinsA_set (ps : List (Option Nat)) (k : Nat) (o : Option Nat) : (pinsA ps).setIfInBounds k (pinV o) = pinsA (ps.set k o) := by simp [pinsA, List.map_set]

section
variable (B p cb qb pb : Nat) (lv : Value) (s : BS) (f : Ed) (sc : Value) (ps : List (Option Nat)) (w : World) (h : EpochM B w p cb qb lv s f (.slice (some ⟨pb, 0, none⟩) f.n f.n) sc) (hp : Blk w pb 45 (pinsA ps)) (hl : ps.length = f.n) (t : Int)
include h hp hl
theorem pin_bad (k : Int) (hb : ckerr f t k ≠ 0) : Calls Try.prog 19 #[.pointer (some ⟨qb, 0, none⟩), .int .i64 t, .int .i64 k] w fun e w' => e = .returned (.tuple #[.pointer none, .int .i64 (ckerr f t k)]) ∧ w = w' := by
  obtain ⟨c, hc⟩ : ∃ c, c = ckerr f t k := ⟨_, rfl⟩
  have bc : (c != 0) = true := by rw [bne_iff_ne, hc]; exact hb
  have CK0 := check_e B p cb qb lv s f _ sc w h t k
  rw [← hc] at CK0 ⊢
  clear hc hb
  go_enter Try.func19, Try.ntmps19
  go_wp2_with fail
  refine CK0.mono ?_
  rintro e w1 ⟨rfl, rfl⟩
  clear CK0
  go_wp2_with fail
  go_ret2
  exact ⟨rfl, rfl⟩
theorem pin_have (k : Nat) (hb : ckerr f t k = 0) (g : Nat) (hk : ps[k]? = some (some g)) : Calls Try.prog 19 #[.pointer (some ⟨qb, 0, none⟩), .int .i64 t, .int .i64 k] w fun e w' => e = .returned (.tuple #[.pointer none, .int .i64 9]) ∧ w = w' := by
  have CK0 := check_e B p cb qb lv s f _ sc w h t k
  rw [hb] at CK0
  have g4 : w.cell? ⟨qb, 4, none⟩ = some (.slice (some ⟨pb, 0, none⟩) f.n f.n) := h.fd.cell 4
  have ck : w.cell? ⟨pb, k, none⟩ = some (.pointer (some ⟨g, 0, none⟩)) := (hp.cell k).trans (pinsA_at hk)
  have hlt : k < f.n := by rw [← hl]; exact (List.getElem?_eq_some_iff.1 hk).1
  clear hb hk h hp hl
  go_enter Try.func19, Try.ntmps19
  go_wp2_with fail
  refine CK0.mono ?_
  rintro e w1 ⟨rfl, rfl⟩
  clear CK0
  go_wp2_with fail
  go_ret2
  exact ⟨rfl, rfl⟩
/-- A pin was begun. -/
def PnBegun (B p cb qb pb : Nat) (lv : Value) (s : BS) (f : Ed) (sc : Value) (ps : List (Option Nat)) (k : Nat) (t : Int) (w : World) (e : Ending) (w' : World) : Prop :=
  ∃ g, e = .returned (.tuple #[.pointer (some ⟨g, 0, none⟩), .int .i64 0]) ∧ Blk w' g 117 (pnCells qb g ⟨t, k, 0, 9⟩) ∧ Blk w' pb 45 (pinsA (ps.set k (some g))) ∧ Ch (fun b => b = pb) w w' ∧ w.heap.size ≤ g
set_option maxHeartbeats 1000000 in
theorem pin_ok (k : Nat) (hb : ckerr f t k = 0) (hk : ps[k]? = some none) : Calls Try.prog 19 #[.pointer (some ⟨qb, 0, none⟩), .int .i64 t, .int .i64 k] w (PnBegun B p cb qb pb lv s f sc ps k t w) := by
  have CK0 := check_e B p cb qb lv s f _ sc w h t k
  rw [hb] at CK0
  have g4 : w.cell? ⟨qb, 4, none⟩ = some (.slice (some ⟨pb, 0, none⟩) f.n f.n) := h.fd.cell 4
  have ck : w.cell? ⟨pb, k, none⟩ = some (.pointer none) := (hp.cell k).trans (pinsA_at hk)
  have hlt : k < f.n := by rw [← hl]; exact (List.getElem?_eq_some_iff.1 hk).1
  have H := hid h
  have HP := hid hp
  have HK := hid hk
  clear hb hk h hp hl
  go_enter Try.func19, Try.ntmps19
  go_wp2_with fail
  refine CK0.mono ?_
  rintro e w1 ⟨rfl, rfl⟩
  clear CK0
  go_wp2_with fail
  refine calls_world fun W hW => ?_
  have k1 : Blk W w.heap.size 117 #[.pointer (some ⟨qb, 0, none⟩), .int .i64 t, .int .u8 0, .nilFunc, .int .i64 k, .int .u64 0] := by rw [hW]; exact Blk.new w _ _
  have c1 : Ch (fun b => b = pb) w W := by rw [hW]; exact (Ch.refl _ w).alloc _
  have p1 : Blk W pb 45 (pinsA ps) := by rw [hW]; exact HP.out.alloc _
  have q1 : Blk W qb 109 (edCells p f (.slice (some ⟨pb, 0, none⟩) f.n f.n) sc) := by rw [hW]; exact H.out.fd.alloc _
  have K1 := hid k1
  have C1 := hid c1
  have P1 := hid p1
  have Q1 := hid q1
  clear hW k1 c1 p1 q1 g4 ck
  refine (then_any w.heap.size 117 _ W K1.out (.int .u8 0) .nilFunc rfl rfl 9 60).mono ?_
  rintro e w2 ⟨rfl, k2, c2⟩
  have hne : pb ≠ w.heap.size := Nat.ne_of_lt HP.out.lt
  have hnq : qb ≠ w.heap.size := Nat.ne_of_lt H.out.fd.lt
  have p2 := c2.blk P1.out hne
  have q2 := c2.blk Q1.out hnq
  have g4 : w2.cell? ⟨qb, 4, none⟩ = some (.slice (some ⟨pb, 0, none⟩) f.n f.n) := q2.cell 4
  have ck2 : w2.cell? ⟨pb, k, none⟩ = some (.pointer none) := (p2.cell k).trans (pinsA_at HK.out)
  have fk2 := p2.free k
  have HP2 := hid p2
  have HK2 := hid k2
  have HC2 := hid c2
  clear p2 q2 k2 c2
  go_wp2_with fail
  go_ret2
  refine ⟨w.heap.size, rfl, HK2.out.far (Ne.symm hne) _, by rw [← pinsA_set]; exact HP2.out.put k _, ?_, Nat.le_refl _⟩
  exact ((C1.out.trans HC2.out (fun i hi e => absurd e (Nat.ne_of_lt hi))).set (fun _ => rfl) _)

theorem unpin_bad (k : Int) (hb : ckerr f t k ≠ 0) : Calls Try.prog 25 #[.pointer (some ⟨qb, 0, none⟩), .int .i64 t, .int .i64 k] w fun e w' => e = .returned (.int .i64 (ckerr f t k)) ∧ w = w' := by
  obtain ⟨c, hc⟩ : ∃ c, c = ckerr f t k := ⟨_, rfl⟩
  have bc : (c != 0) = true := by rw [bne_iff_ne, hc]; exact hb
  have CK0 := check_e B p cb qb lv s f _ sc w h t k
  rw [← hc] at CK0 ⊢
  clear hc hb
  go_enter Try.func25, Try.ntmps25
  go_wp2_with fail
  refine CK0.mono ?_
  rintro e w1 ⟨rfl, rfl⟩
  clear CK0
  go_wp2_with fail
  go_ret
  exact ⟨rfl, rfl⟩
theorem unpin_none (k : Nat) (hb : ckerr f t k = 0) (hk : ps[k]? = some none) : Calls Try.prog 25 #[.pointer (some ⟨qb, 0, none⟩), .int .i64 t, .int .i64 k] w fun e w' => e = .returned (.int .i64 7) ∧ w = w' := by
  have CK0 := check_e B p cb qb lv s f _ sc w h t k
  rw [hb] at CK0
  have g4 : w.cell? ⟨qb, 4, none⟩ = some (.slice (some ⟨pb, 0, none⟩) f.n f.n) := h.fd.cell 4
  have ck : w.cell? ⟨pb, k, none⟩ = some (.pointer none) := (hp.cell k).trans (pinsA_at hk)
  have hlt : k < f.n := by rw [← hl]; exact (List.getElem?_eq_some_iff.1 hk).1
  clear hb hk h hp hl
  go_enter Try.func25, Try.ntmps25
  go_wp2_with fail
  refine CK0.mono ?_
  rintro e w1 ⟨rfl, rfl⟩
  clear CK0
  go_wp2_with fail
  go_ret
  exact ⟨rfl, rfl⟩
theorem unpin_state (k : Nat) (hb : ckerr f t k = 0) (g : Nat) (hk : ps[k]? = some (some g)) (q : Pn) (hg : Blk w g 117 (pnCells qb g q)) (hph : q.ph = 9 ∨ q.ph = 10) : Calls Try.prog 25 #[.pointer (some ⟨qb, 0, none⟩), .int .i64 t, .int .i64 k] w fun e w' => e = .returned (.int .i64 8) ∧ w = w' := by
  have CK0 := check_e B p cb qb lv s f _ sc w h t k
  rw [hb] at CK0
  have g4 : w.cell? ⟨qb, 4, none⟩ = some (.slice (some ⟨pb, 0, none⟩) f.n f.n) := h.fd.cell 4
  have ck : w.cell? ⟨pb, k, none⟩ = some (.pointer (some ⟨g, 0, none⟩)) := (hp.cell k).trans (pinsA_at hk)
  have hlt : k < f.n := by rw [← hl]; exact (List.getElem?_eq_some_iff.1 hk).1
  rcases hph with e | e
  · have a3 : w.cell? ⟨g, 3, none⟩ = some (.func (.func 60) #[.pointer (some ⟨g, 0, none⟩)] #[]) := (hg.cell 3).trans (by show some (pnDo g q.ph) = _; rw [e]; rfl)
    have hfn : ∀ W : World, (binOp .neq 1 (.func (.func 60) #[.pointer (some ⟨g, 0, none⟩)] #[]) .nilFunc).run Try.prog W = .ok (.bool true) W := fun W => by kernel_rfl
    clear hb hk h hp hl hg e
    go_enter Try.func25, Try.ntmps25
    go_wp2_with fail
    refine CK0.mono ?_
    rintro e w1 ⟨rfl, rfl⟩
    clear CK0
    go_wp2_with fail
    go_ret
    exact ⟨rfl, rfl⟩
  · have a3 : w.cell? ⟨g, 3, none⟩ = some (.func (.func 72) #[.pointer (some ⟨g, 0, none⟩)] #[]) := (hg.cell 3).trans (by show some (pnDo g q.ph) = _; rw [e]; rfl)
    have hfn : ∀ W : World, (binOp .neq 1 (.func (.func 72) #[.pointer (some ⟨g, 0, none⟩)] #[]) .nilFunc).run Try.prog W = .ok (.bool true) W := fun W => by kernel_rfl
    clear hb hk h hp hl hg e
    go_enter Try.func25, Try.ntmps25
    go_wp2_with fail
    refine CK0.mono ?_
    rintro e w1 ⟨rfl, rfl⟩
    clear CK0
    go_wp2_with fail
    go_ret
    exact ⟨rfl, rfl⟩
/-- A slot was cleared. -/
def Unpinned (B p cb qb pb : Nat) (lv : Value) (s' : BS) (f : Ed) (pins sc : Value) (ps : List (Option Nat)) (k : Nat) (w : World) (e : Ending) (w' : World) : Prop :=
  e = .returned (.int .i64 0) ∧ ∃ lv', EpochM B w' p cb qb lv' s' f pins sc ∧ Blk w' pb 45 (pinsA (ps.set k none)) ∧ Ch (fun b => FP p cb lv b ∨ b = pb) w w' ∧ Fresh w lv lv'
set_option maxHeartbeats 1000000 in
theorem unpin_ok (hlen : s.lg.length < 1000000) (hB : B ≤ w.heap.size) (k : Nat) (hb : ckerr f t k = 0) (g : Nat) (hk : ps[k]? = some (some g)) (q : Pn) (hg : Blk w g 117 (pnCells qb g q)) (hph : q.ph = 0) :
    Calls Try.prog 25 #[.pointer (some ⟨qb, 0, none⟩), .int .i64 t, .int .i64 k] w (Unpinned B p cb qb pb lv (s.store t (f.slot k : Nat) 0) f (.slice (some ⟨pb, 0, none⟩) f.n f.n) sc ps k w) := by
  have CK0 := check_e B p cb qb lv s f _ sc w h t k
  rw [hb] at CK0
  have ht : 0 ≤ t ∧ t < 16 := by
    unfold ckerr at hb
    split at hb
    · cases hb
    · omega
  have g4 : w.cell? ⟨qb, 4, none⟩ = some (.slice (some ⟨pb, 0, none⟩) f.n f.n) := h.fd.cell 4
  have ck : w.cell? ⟨pb, k, none⟩ = some (.pointer (some ⟨g, 0, none⟩)) := (hp.cell k).trans (pinsA_at hk)
  have fk := hp.free k
  have hlt : k < f.n := by rw [← hl]; exact (List.getElem?_eq_some_iff.1 hk).1
  have a3 : w.cell? ⟨g, 3, none⟩ = some .nilFunc := (hg.cell 3).trans (by show some (pnDo g q.ph) = _; rw [hph]; rfl)
  have hfn : ∀ W : World, (binOp .neq 1 .nilFunc .nilFunc).run Try.prog W = .ok (.bool false) W := fun W => by kernel_rfl
  have hn := h.b.hn
  obtain ⟨hk1, hk2⟩ := slot_lt h.ok hlt
  have hwr : IntKind.i64.wrap (f.sl + (k : Int)) = (f.slot k : Int) := by rw [hk1]; exact IntWalk.i64_in _ (by omega)
  obtain ⟨m, hm⟩ : ∃ m, m = f.slot k := ⟨_, rfl⟩
  rw [← hm] at hk2 hwr ⊢
  have H := hid h
  have HP := hid hp
  clear hb hk h hp hl hg hph hm hk1
  go_enter Try.func25, Try.ntmps25
  go_wp2_with fail
  refine CK0.mono ?_
  rintro e w1 ⟨rfl, rfl⟩
  clear CK0
  have nq := HP.out.ne H.out.fd (by decide)
  have nq' := Ne.symm nq
  go_wp2_with fail
  clear g4 ck fk a3
  obtain ⟨W, hW⟩ : ∃ W, W = w.setCell ⟨pb, k, none⟩ (.pointer none) := ⟨_, rfl⟩
  have p1 : Blk W pb 45 (pinsA (ps.set k none)) := by rw [hW, ← pinsA_set]; exact HP.out.put k _
  have n1 := not_fp H.out.b HP.out (by decide) (by decide) (by decide)
  have m1 : EpochM B W p cb qb lv s f (.slice (some ⟨pb, 0, none⟩) f.n f.n) sc := by
    rw [hW]
    exact H.out.ch ((Ch.refl (fun b => b = pb) w).set (fun _ => rfl) _) (fun e => n1 (.inl e.symm)) (fun e => n1 (.inr (.inl e.symm))) (fun k hk e => n1 (.inr (.inr (by rw [← e]; exact hk)))) (fun e => nq e.symm)
  have c1 : Ch (fun b => b = pb) w W := by rw [hW]; exact (Ch.refl (fun b => b = pb) w).set (fun _ => rfl) _
  have b0 : W.cell? ⟨qb, 0, none⟩ = some (.pointer (some ⟨p, 0, none⟩)) := m1.fd.cell 0
  have b2 : W.cell? ⟨qb, 2, none⟩ = some (.int .i64 f.sl) := m1.fd.cell 2
  have P1 := hid p1
  have M1 := hid m1
  have C1 := hid c1
  rw [← hW]
  clear hW p1 m1 c1
  refine Mix.wp_region_mix (fun _ => True) (fun i => ([0, 0, 0, 0, 0, 0, 0, 0, 0, 0, 0, 2, 0] : List Nat).getD i 0) [0, 1, 2, 3, 4, 5, 6, 7, 8, 9, 10, 11, 12] (by kernel_rfl) (by kernel_rfl) ?_
  repeat (first | (refine Mix.mix_q (by simp only [List.getElem?_toArray, List.getElem?_cons_zero, List.getElem?_cons_succ]; exact rfl) rfl ?_; go_big_quiet_step (fail); refine wpQuiet_nil ?_) | (refine Mix.mix_p (by simp only [List.getElem?_toArray, List.getElem?_cons_zero, List.getElem?_cons_succ]; exact rfl) rfl rfl ?_; go_big_quiet_step (fail); refine wpQuiet_nil ?_))
  refine Mix.mix_e (by simp only [List.getElem?_toArray, List.getElem?_cons_zero, List.getElem?_cons_succ]; exact rfl) rfl fun W2 hW2 => ?_
  obtain ⟨n1, rfl⟩ := hW2
  go_wp2_with fail
  refine (store_ok B p cb lv s t (m : Nat) 0 _ (bank_drew M1.out.b n1) ⟨ht.1, ht.2, by omega, by omega⟩ hlen (Nat.le_trans hB C1.out.size) ⟨by decide, by decide⟩).mono ?_
  rintro e w3 ⟨rfl, hs3⟩
  obtain ⟨lv', hb3, hc3, hf3, hfd3, hpd3⟩ := eafter M1.out P1.out hs3
  have m3 : EpochM B w3 p cb qb lv' (s.store t (m : Nat) 0) f (.slice (some ⟨pb, 0, none⟩) f.n f.n) sc := ⟨hb3, hfd3, M1.out.ok.of (List.length_set ..), M1.out.bf⟩
  have M3 := hid m3
  have P3 := hid hpd3
  have C3 := hid hc3
  have F3 := hid hf3
  clear b0 b2 hs3 hb3 hc3 hf3 hfd3 hpd3 m3
  go_wp2_with fail
  repeat (first | (refine Mix.mix_q (by simp only [List.getElem?_toArray, List.getElem?_cons_zero, List.getElem?_cons_succ]; exact rfl) rfl ?_; go_big_quiet_step (fail); refine wpQuiet_nil ?_) | (refine Mix.mix_p (by simp only [List.getElem?_toArray, List.getElem?_cons_zero, List.getElem?_cons_succ]; exact rfl) rfl rfl ?_; go_big_quiet_step (fail); refine wpQuiet_nil ?_))
  intro n2
  go_wp2_with fail
  go_ret
  exact ⟨rfl, lv', M3.out.drewN n2, P3.out.drewN n2, ((C1.out.mono fun _ _ h => .inr h).trans C3.out (fun _ _ h => .inl h)).drewN n2, F3.out.imp id fun h b hb => Nat.le_trans C1.out.size (h b hb)⟩
end

section
variable (B p cb qb : Nat) (lv : Value) (s : BS) (f : Ed) (pins sc : Value) (w : World) (h : EpochM B w p cb qb lv s f pins sc) (t : Int)
include h
theorem scan_bad (hb : t < 0 ∨ 16 ≤ t) : Calls Try.prog 27 #[.pointer (some ⟨qb, 0, none⟩), .int .i64 t] w fun e w' => e = .returned (.tuple #[.pointer none, .int .i64 2]) ∧ w = w' := by
  by_cases h1 : t < 0
  · have d1 : decide (t < 0) = true := decide_eq_true h1
    go_enter Try.func27, Try.ntmps27
    go_wp2_with fail
    go_ret2
    exact ⟨rfl, rfl⟩
  have d1 : decide (t < 0) = false := decide_eq_false h1
  have d2 : decide (16 ≤ t) = true := decide_eq_true (by omega)
  go_enter Try.func27, Try.ntmps27
  go_wp2_with fail
  go_ret2
  exact ⟨rfl, rfl⟩
theorem scan_busy (ht : 0 ≤ t ∧ t < 16) (g : Nat) (q : Sn) (hsc : sc = .pointer (some ⟨g, 0, none⟩)) (hg : Blk w g 124 (snCells qb g q)) (hph : q.ph = 34 ∨ q.ph = 35) : Calls Try.prog 27 #[.pointer (some ⟨qb, 0, none⟩), .int .i64 t] w fun e w' => e = .returned (.tuple #[.pointer none, .int .i64 8]) ∧ w = w' := by
  subst hsc
  have d1 : decide (t < 0) = false := decide_eq_false (by omega)
  have d2 : decide (16 ≤ t) = false := decide_eq_false (by omega)
  have g5 : w.cell? ⟨qb, 5, none⟩ = some (.pointer (some ⟨g, 0, none⟩)) := h.fd.cell 5
  rcases hph with e | e
  · have a3 : w.cell? ⟨g, 3, none⟩ = some (.func (.func 73) #[.pointer (some ⟨g, 0, none⟩)] #[]) := (hg.cell 3).trans (by show some (snDo g q.ph) = _; rw [e]; rfl)
    have hfn : ∀ W : World, (binOp .neq 1 (.func (.func 73) #[.pointer (some ⟨g, 0, none⟩)] #[]) .nilFunc).run Try.prog W = .ok (.bool true) W := fun W => by kernel_rfl
    clear h hg e
    go_enter Try.func27, Try.ntmps27
    go_wp2_with fail
    go_ret2
    exact ⟨rfl, rfl⟩
  · have a3 : w.cell? ⟨g, 3, none⟩ = some (.func (.func 74) #[.pointer (some ⟨g, 0, none⟩)] #[]) := (hg.cell 3).trans (by show some (snDo g q.ph) = _; rw [e]; rfl)
    have hfn : ∀ W : World, (binOp .neq 1 (.func (.func 74) #[.pointer (some ⟨g, 0, none⟩)] #[]) .nilFunc).run Try.prog W = .ok (.bool true) W := fun W => by kernel_rfl
    clear h hg e
    go_enter Try.func27, Try.ntmps27
    go_wp2_with fail
    go_ret2
    exact ⟨rfl, rfl⟩
end
/-- No scan is in progress. -/
def SRests (w : World) (qb : Nat) (sc : Value) : Prop := sc = .pointer none ∨ ∃ g q, sc = .pointer (some ⟨g, 0, none⟩) ∧ Blk w g 124 (snCells qb g q) ∧ q.ph = 0
/-- A scan was begun. -/
def SnBegun (B p cb qb : Nat) (lv : Value) (s : BS) (f : Ed) (pins : Value) (t : Int) (w : World) (e : Ending) (w' : World) : Prop :=
  ∃ g, e = .returned (.tuple #[.pointer (some ⟨g, 0, none⟩), .int .i64 0]) ∧ EpochM B w' p cb qb lv s f pins (.pointer (some ⟨g, 0, none⟩)) ∧ Blk w' g 124 (snCells qb g (snBeg f ⟨t, 0, false, 0⟩)) ∧ Ch (fun b => b = qb) w w' ∧ w.heap.size ≤ g
section
variable (B p cb qb : Nat) (lv : Value) (s : BS) (f : Ed) (pins sc : Value) (w : World) (h : EpochM B w p cb qb lv s f pins sc) (t : Int)
include h
set_option maxHeartbeats 1000000 in
theorem scan_ok0 (ht : 0 ≤ t ∧ t < 16) (hsc : sc = .pointer none) : Calls Try.prog 27 #[.pointer (some ⟨qb, 0, none⟩), .int .i64 t] w (SnBegun B p cb qb lv s f pins t w) := by
  subst hsc
  have d1 : decide (t < 0) = false := decide_eq_false (by omega)
  have d2 : decide (16 ≤ t) = false := decide_eq_false (by omega)
  have g5 : w.cell? ⟨qb, 5, none⟩ = some (.pointer none) := h.fd.cell 5
  have H := hid h
  clear  h
  go_enter Try.func27, Try.ntmps27
  go_wp2_with fail
  refine calls_world fun W hW => ?_
  have k1 : Blk W w.heap.size 124 (snCells qb w.heap.size ⟨t, 0, false, 0⟩) := by rw [hW]; exact Blk.new w _ _
  have m1 : EpochM B W p cb qb lv s f pins (.pointer none) := by rw [hW]; exact H.out.keep ((Ch.refl _ w).alloc _)
  have c1 : Ch (fun _ => False) w W := by rw [hW]; exact (Ch.refl _ w).alloc _
  have M1 := hid m1
  have C1 := hid c1
  have K1 := hid k1
  clear hW k1 m1 c1 g5 
  refine (sn_begin0 B p cb qb w.heap.size lv s f pins (.pointer none) ⟨t, 0, false, 0⟩ W M1.out K1.out).mono ?_
  rintro e w2 ⟨rfl, m2, k2, c2⟩
  have g5 : w2.cell? ⟨qb, 5, none⟩ = some (.pointer none) := m2.fd.cell 5
  have f5 := m2.fd.free 5
  have M2 := hid m2
  have K2 := hid k2
  have C2 := hid c2
  clear m2 k2 c2
  go_wp2_with fail
  go_ret2
  have nq : qb ≠ w.heap.size := Nat.ne_of_lt H.out.fd.lt
  have n1 := not_fp M2.out.b M2.out.fd (by decide) (by decide) (by decide)
  refine ⟨w.heap.size, rfl, ⟨M2.out.b.ch ((Ch.refl (fun b => b = qb) w2).set (fun _ => rfl) _) (fun e => n1 (.inl e.symm)) (fun e => n1 (.inr (.inl e.symm))) (fun k hk e => n1 (.inr (.inr (by rw [← e]; exact hk)))), M2.out.fd.put 5 _, M2.out.ok, M2.out.bf⟩, K2.out.far (Ne.symm nq) _, ?_, Nat.le_refl _⟩
  exact (((C1.out.mono (fp' := fun b => b = qb) (fun _ _ h => h.elim)).trans C2.out (fun i hi hk => absurd hk (Nat.ne_of_lt hi))).set (fun _ => rfl) _)
set_option maxHeartbeats 1000000 in
theorem scan_ok1 (ht : 0 ≤ t ∧ t < 16) (g : Nat) (q : Sn) (hsc : sc = .pointer (some ⟨g, 0, none⟩)) (hg : Blk w g 124 (snCells qb g q)) (hph : q.ph = 0) : Calls Try.prog 27 #[.pointer (some ⟨qb, 0, none⟩), .int .i64 t] w (SnBegun B p cb qb lv s f pins t w) := by
  subst hsc
  have a3 : w.cell? ⟨g, 3, none⟩ = some .nilFunc := (hg.cell 3).trans (by show some (snDo g q.ph) = _; rw [hph]; rfl)
  have hfn : ∀ W : World, (binOp .neq 1 .nilFunc .nilFunc).run Try.prog W = .ok (.bool false) W := fun W => by kernel_rfl
  have d1 : decide (t < 0) = false := decide_eq_false (by omega)
  have d2 : decide (16 ≤ t) = false := decide_eq_false (by omega)
  have g5 : w.cell? ⟨qb, 5, none⟩ = some (.pointer (some ⟨g, 0, none⟩)) := h.fd.cell 5
  have H := hid h
  clear hg hph h
  go_enter Try.func27, Try.ntmps27
  go_wp2_with fail
  refine calls_world fun W hW => ?_
  have k1 : Blk W w.heap.size 124 (snCells qb w.heap.size ⟨t, 0, false, 0⟩) := by rw [hW]; exact Blk.new w _ _
  have m1 : EpochM B W p cb qb lv s f pins (.pointer (some ⟨g, 0, none⟩)) := by rw [hW]; exact H.out.keep ((Ch.refl _ w).alloc _)
  have c1 : Ch (fun _ => False) w W := by rw [hW]; exact (Ch.refl _ w).alloc _
  have M1 := hid m1
  have C1 := hid c1
  have K1 := hid k1
  clear hW k1 m1 c1 g5 a3
  refine (sn_begin0 B p cb qb w.heap.size lv s f pins (.pointer (some ⟨g, 0, none⟩)) ⟨t, 0, false, 0⟩ W M1.out K1.out).mono ?_
  rintro e w2 ⟨rfl, m2, k2, c2⟩
  have g5 : w2.cell? ⟨qb, 5, none⟩ = some (.pointer (some ⟨g, 0, none⟩)) := m2.fd.cell 5
  have f5 := m2.fd.free 5
  have M2 := hid m2
  have K2 := hid k2
  have C2 := hid c2
  clear m2 k2 c2
  go_wp2_with fail
  go_ret2
  have nq : qb ≠ w.heap.size := Nat.ne_of_lt H.out.fd.lt
  have n1 := not_fp M2.out.b M2.out.fd (by decide) (by decide) (by decide)
  refine ⟨w.heap.size, rfl, ⟨M2.out.b.ch ((Ch.refl (fun b => b = qb) w2).set (fun _ => rfl) _) (fun e => n1 (.inl e.symm)) (fun e => n1 (.inr (.inl e.symm))) (fun k hk e => n1 (.inr (.inr (by rw [← e]; exact hk)))), M2.out.fd.put 5 _, M2.out.ok, M2.out.bf⟩, K2.out.far (Ne.symm nq) _, ?_, Nat.le_refl _⟩
  exact (((C1.out.mono (fp' := fun b => b = qb) (fun _ _ h => h.elim)).trans C2.out (fun i hi hk => absurd hk (Nat.ne_of_lt hi))).set (fun _ => rfl) _)
theorem scan_ok (ht : 0 ≤ t ∧ t < 16) (hr : SRests w qb sc) : Calls Try.prog 27 #[.pointer (some ⟨qb, 0, none⟩), .int .i64 t] w (SnBegun B p cb qb lv s f pins t w) := by
  rcases hr with e | ⟨g, q, e, hg, hph⟩
  · exact scan_ok0 B p cb qb lv s f pins sc w h t ht e
  · exact scan_ok1 B p cb qb lv s f pins sc w h t ht g q e hg hph
end
section
variable (qb g : Nat) (w : World)
theorem pn_next (q : Pn) (hq : Blk w g 117 (pnCells qb g q)) : Calls Try.prog 21 #[.pointer (some ⟨g, 0, none⟩)] w fun e w' => e = .returned (.int .u8 q.ph) ∧ w = w' := by
  have a2 : w.cell? ⟨g, 2, none⟩ = some (.int .u8 q.ph) := hq.cell 2
  clear hq
  go_enter Try.func21, Try.ntmps21
  go_wp2_with fail
  go_ret
  exact ⟨rfl, rfl⟩
theorem sn_next (q : Sn) (hq : Blk w g 124 (snCells qb g q)) : Calls Try.prog 29 #[.pointer (some ⟨g, 0, none⟩)] w fun e w' => e = .returned (.int .u8 q.ph) ∧ w = w' := by
  have a2 : w.cell? ⟨g, 2, none⟩ = some (.int .u8 q.ph) := hq.cell 2
  clear hq
  go_enter Try.func29, Try.ntmps29
  go_wp2_with fail
  go_ret
  exact ⟨rfl, rfl⟩
def snRes (q : Sn) : Bool × Int := if q.ph = 0 then (q.adv, 0) else (false, 8)
theorem sn_result (q : Sn) (hq : Blk w g 124 (snCells qb g q)) (hph : q.ph = 0 ∨ q.ph = 34 ∨ q.ph = 35) : Calls Try.prog 33 #[.pointer (some ⟨g, 0, none⟩)] w fun e w' => e = .returned (.tuple #[.bool (snRes q).1, .int .i64 (snRes q).2]) ∧ w = w' := by
  have a5 : w.cell? ⟨g, 5, none⟩ = some (.bool q.adv) := hq.cell 5
  unfold snRes
  rcases hph with e | e | e
  · have a3 : w.cell? ⟨g, 3, none⟩ = some (.nilFunc) := (hq.cell 3).trans (by show some (snDo g q.ph) = _; rw [e]; rfl)
    have hfn : ∀ W : World, (binOp .neq 1 (.nilFunc) .nilFunc).run Try.prog W = .ok (.bool false) W := fun W => by kernel_rfl
    rw [if_pos e]
    clear hq e
    go_enter Try.func33, Try.ntmps33
    go_wp2_with fail
    go_ret2
    exact ⟨rfl, rfl⟩
  · have a3 : w.cell? ⟨g, 3, none⟩ = some (.func (.func 73) #[.pointer (some ⟨g, 0, none⟩)] #[]) := (hq.cell 3).trans (by show some (snDo g q.ph) = _; rw [e]; rfl)
    have hfn : ∀ W : World, (binOp .neq 1 (.func (.func 73) #[.pointer (some ⟨g, 0, none⟩)] #[]) .nilFunc).run Try.prog W = .ok (.bool true) W := fun W => by kernel_rfl
    rw [if_neg (by rw [e]; decide)]
    clear hq e
    go_enter Try.func33, Try.ntmps33
    go_wp2_with fail
    go_ret2
    exact ⟨rfl, rfl⟩
  · have a3 : w.cell? ⟨g, 3, none⟩ = some (.func (.func 74) #[.pointer (some ⟨g, 0, none⟩)] #[]) := (hq.cell 3).trans (by show some (snDo g q.ph) = _; rw [e]; rfl)
    have hfn : ∀ W : World, (binOp .neq 1 (.func (.func 74) #[.pointer (some ⟨g, 0, none⟩)] #[]) .nilFunc).run Try.prog W = .ok (.bool true) W := fun W => by kernel_rfl
    rw [if_neg (by rw [e]; decide)]
    clear hq e
    go_enter Try.func33, Try.ntmps33
    go_wp2_with fail
    go_ret2
    exact ⟨rfl, rfl⟩
end
end Go.Proofs.Ytokcodeeaneeaaa
