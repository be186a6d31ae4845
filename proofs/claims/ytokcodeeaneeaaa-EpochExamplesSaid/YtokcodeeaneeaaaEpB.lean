/- Pins and scans: what their steps compute, their memory, the inner functions. -/
import Derived.Test.YtokcodeeaneeaaaEpA
import Derived.Laws.EntriesVeiled
namespace Go.Proofs.Ytokcodeeaneeaaa
open Go.RowKit
set_option linter.unusedVariables false
set_option linter.unusedSimpArgs false
set_option linter.unusedSectionVars false

/-- A pin. -/
structure Pn where
  t : Int
  slot : Nat
  seen : Int
  ph : Int
/-- A scan. -/
structure Sn where
  t : Int
  at' : Nat
  adv : Bool
  ph : Int
def Ed.slot (f : Ed) (i : Nat) : Nat := (f.sl + (i : Int)).toNat
/-- A step of a pin. -/
def pnstep (s : BS) (f : Ed) (q : Pn) : BS × Pn :=
  if q.ph = 9 then (s.load q.t f.ep, { q with seen := lk s.vs f.ep, ph := 10 })
  else if q.ph = 10 then (s.store q.t (f.slot q.slot : Nat) (w64 (q.seen + 1)), { q with ph := 0 })
  else (s, q)
/-- A step of a scan. -/
def snstep (s : BS) (f : Ed) (q : Sn) : BS × Sn :=
  if q.ph = 34 then (s.load q.t (f.slot q.at' : Nat), if lk s.vs (f.slot q.at') ≠ 0 ∧ lk s.vs (f.slot q.at') ≠ w64 (lk s.vs f.ep + 1) then { q with ph := 0 } else { q with at' := q.at' + 1, ph := if q.at' + 1 < f.n then 34 else 35 })
  else if q.ph = 35 then (s.store q.t f.ep (w64 (lk s.vs f.ep + 1)), { q with adv := true, ph := 0 })
  else (s, q)

def pnDo (g : Nat) (ph : Int) : Value := if ph = 9 then .func (.func 60) #[.pointer (some ⟨g, 0, none⟩)] #[] else if ph = 10 then .func (.func 72) #[.pointer (some ⟨g, 0, none⟩)] #[] else .nilFunc
def snDo (g : Nat) (ph : Int) : Value := if ph = 34 then .func (.func 73) #[.pointer (some ⟨g, 0, none⟩)] #[] else if ph = 35 then .func (.func 74) #[.pointer (some ⟨g, 0, none⟩)] #[] else .nilFunc
def pnCells (qb g : Nat) (q : Pn) : Array Value := #[.pointer (some ⟨qb, 0, none⟩), .int .i64 q.t, .int .u8 q.ph, pnDo g q.ph, .int .i64 q.slot, .int .u64 q.seen]
def snCells (qb g : Nat) (q : Sn) : Array Value := #[.pointer (some ⟨qb, 0, none⟩), .int .i64 q.t, .int .u8 q.ph, snDo g q.ph, .int .i64 q.at', .bool q.adv]

/-- What an inner function leaves: g is the operation's block, t its type. -/
def ERes (B p cb qb g : Nat) (t : TypeId) (lv : Value) (f : Ed) (pins sc : Value) (s' : BS) (cs : Array Value) (w : World) (e : Ending) (w' : World) : Prop :=
  e = .returned (.tuple #[]) ∧ ∃ lv', EpochM B w' p cb qb lv' s' f pins sc ∧ Blk w' g t cs ∧ Ch (fun b => FP p cb lv b ∨ b = g) w w' ∧ Fresh w lv lv'

section
variable {B p cb qb g : Nat} {t : TypeId} {lv lv' : Value} {s s' : BS} {f : Ed} {pins sc : Value} {cs cs' : Array Value} {w w1 w' : World}
theorem not_fp {vs : List Int} {lg : List Acc} (h : Bank B w p cb lv vs lg) (hg : Blk w g t cs) (h1 : t ≠ 97) (h2 : t ≠ 102) (h3 : t ≠ 128) : ¬ FP p cb lv g := by
  rintro (e | e | e)
  · exact hg.ne h.hp h1 e
  · exact hg.ne h.hc h2 e
  · exact hg.own h.hl h3 e
theorem eafter {n : Nat} (h : EpochM B w p cb qb lv s f pins sc) (hq : Blk w g t cs) (hs : BStep B (w.drewN n) w1 p cb lv s') (h1 : t ≠ 97 := by decide) (h2 : t ≠ 102 := by decide) (h3 : t ≠ 128 := by decide) :
    ∃ lv', Bank B w1 p cb lv' s'.vs s'.lg ∧ Ch (FP p cb lv) w w1 ∧ Fresh w lv lv' ∧ Blk w1 qb 109 (edCells p f pins sc) ∧ Blk w1 g t cs := by
  obtain ⟨lv', hb, hc, hf⟩ := hs
  have c1 : Ch (FP p cb lv) w w1 := hc.ofDrewN
  exact ⟨lv', hb, c1, hf, c1.blk h.fd (not_fp h.b h.fd (by decide) (by decide) (by decide)), c1.blk hq (not_fp h.b hq h1 h2 h3)⟩
theorem EdOk.of (h : EdOk s f) (hl : s'.vs.length = s.vs.length) : EdOk s' f := ⟨by rw [hl]; exact h.e, h.n, by rw [hl]; exact h.s⟩
theorem eres_close (h : EpochM B w p cb qb lv s f pins sc) (hb1 : Bank B w1 p cb lv' s'.vs s'.lg) (hc1 : Ch (FP p cb lv) w w1) (hf1 : Fresh w lv lv') (hfd : Blk w1 qb 109 (edCells p f pins sc)) (hqd : Blk w1 g t cs) (hl : s'.vs.length = s.vs.length)
    (c2 : Ch (fun b => b = g) w1 w') (hq' : Blk w' g t cs') (h1 : t ≠ 97 := by decide) (h2 : t ≠ 102 := by decide) (h3 : t ≠ 128 := by decide) (h4 : t ≠ 109 := by decide) :
    ERes B p cb qb g t lv f pins sc s' cs' w (.returned (.tuple #[])) w' := by
  have n1 := not_fp hb1 hqd h1 h2 h3
  refine ⟨rfl, lv', ⟨hb1.ch c2 (fun e => n1 (.inl e.symm)) (fun e => n1 (.inr (.inl e.symm))) (fun k hk e => n1 (.inr (.inr (by rw [← e]; exact hk)))), c2.blk hfd (fun e => hqd.ne hfd h4 e.symm), h.ok.of hl, h.bf⟩, hq', ?_, hf1⟩
  exact (hc1.mono fun _ _ h => .inl h).trans c2 (fun _ _ h => .inr h)
/-- Nothing but the operation's own block has changed. -/
theorem eres_own (h : EpochM B w p cb qb lv s f pins sc) (hq : Blk w g t cs) (c2 : Ch (fun b => b = g) w w') (hq' : Blk w' g t cs') (h1 : t ≠ 97 := by decide) (h2 : t ≠ 102 := by decide) (h3 : t ≠ 128 := by decide) (h4 : t ≠ 109 := by decide) :
    ERes B p cb qb g t lv f pins sc s cs' w (.returned (.tuple #[])) w' :=
  eres_close h h.b (Ch.refl _ _) (.inl rfl) h.fd hq rfl c2 hq' h1 h2 h3 h4
theorem slot_lt (h : EdOk s f) {i : Nat} (hi : i < f.n) : (f.slot i : Int) = f.sl + i ∧ f.slot i < s.vs.length := by
  have := h.s i hi
  unfold Ed.slot
  omega
end

/-- What then and end leave. -/
def SetOp (g : Nat) (t : TypeId) (cs : Array Value) (u v : Value) (w : World) (e : Ending) (w' : World) : Prop :=
  e = .returned (.tuple #[]) ∧ Blk w' g t ((cs.setIfInBounds 2 u).setIfInBounds 3 v) ∧ Ch (fun b => b = g) w w'
theorem setop_of {g : Nat} {t : TypeId} {cs : Array Value} {w : World} (h : Blk w g t cs) (u v : Value) : SetOp g t cs u v w (.returned (.tuple #[])) ((w.setCell ⟨g, 2, none⟩ u).setCell ⟨g, 3, none⟩ v) :=
  ⟨rfl, (h.put 2 u).put 3 v, ((Ch.refl (fun b => b = g) w).set (fun _ => rfl) _).set (fun _ => rfl) _⟩

section
variable (g : Nat) (t : TypeId) (cs : Array Value) (w : World) (h : Blk w g t cs) (u v : Value) (h2 : cs[2]? = some u) (h3 : cs[3]? = some v)
include h h2 h3
theorem then_any (ph : Int) (F : FuncId) : Calls Try.prog 59 #[.pointer (some ⟨g, 0, none⟩), .int .u8 ph, .func (.func F) #[.pointer (some ⟨g, 0, none⟩)] #[]] w (SetOp g t cs (.int .u8 ph) (.func (.func F) #[.pointer (some ⟨g, 0, none⟩)] #[]) w) := by
  have a2 : w.cell? ⟨g, 2, none⟩ = some u := (h.cell 2).trans h2
  have a3 : w.cell? ⟨g, 3, none⟩ = some v := (h.cell 3).trans h3
  have f2 := h.free 2
  have f3 := h.free 3
  have H := hid h
  clear h h2 h3
  go_enter Try.func59, Try.ntmps59
  go_wp2_with fail
  go_end0
  exact setop_of H.out _ _
theorem end_any : Calls Try.prog 77 #[.pointer (some ⟨g, 0, none⟩)] w (SetOp g t cs (.int .u8 0) .nilFunc w) := by
  have a2 : w.cell? ⟨g, 2, none⟩ = some u := (h.cell 2).trans h2
  have a3 : w.cell? ⟨g, 3, none⟩ = some v := (h.cell 3).trans h3
  have f2 := h.free 2
  have f3 := h.free 3
  have H := hid h
  clear h h2 h3
  go_enter Try.func77, Try.ntmps77
  go_wp2_with fail
  go_end0
  exact setop_of H.out _ _
end

/-- check. -/
def ckerr (f : Ed) (t k : Int) : Int := if t < 0 ∨ 16 ≤ t then 2 else if k < 0 ∨ (f.n : Int) ≤ k then 3 else 0
set_option maxHeartbeats 400000 in
theorem check_e (B p cb qb : Nat) (lv : Value) (s : BS) (f : Ed) (pins sc : Value) (w : World) (h : EpochM B w p cb qb lv s f pins sc) (t k : Int) :
    Calls Try.prog 58 #[.pointer (some ⟨qb, 0, none⟩), .int .i64 t, .int .i64 k] w fun e w' => e = .returned (.int .i64 (ckerr f t k)) ∧ w = w' := by
  have g3 : w.cell? ⟨qb, 3, none⟩ = some (.int .i64 f.n) := h.fd.cell 3
  unfold ckerr
  by_cases h1 : t < 0
  · have d1 : decide (t < 0) = true := decide_eq_true h1
    rw [if_pos (.inl h1)]
    go_enter Try.func58, Try.ntmps58
    go_wp2_with fail
    go_ret
    exact ⟨rfl, rfl⟩
  have d1 : decide (t < 0) = false := decide_eq_false h1
  by_cases h2 : 16 ≤ t
  · have d2 : decide (16 ≤ t) = true := decide_eq_true h2
    rw [if_pos (.inr h2)]
    go_enter Try.func58, Try.ntmps58
    go_wp2_with fail
    go_ret
    exact ⟨rfl, rfl⟩
  have d2 : decide (16 ≤ t) = false := decide_eq_false h2
  rw [if_neg (by omega)]
  by_cases h3 : k < 0
  · have d3 : decide (k < 0) = true := decide_eq_true h3
    rw [if_pos (.inl h3)]
    go_enter Try.func58, Try.ntmps58
    go_wp2_with fail
    go_ret
    exact ⟨rfl, rfl⟩
  have d3 : decide (k < 0) = false := decide_eq_false h3
  by_cases h4 : (f.n : Int) ≤ k
  · have d4 : decide ((f.n : Int) ≤ k) = true := decide_eq_true h4
    rw [if_pos (.inr h4)]
    go_enter Try.func58, Try.ntmps58
    go_wp2_with fail
    go_ret
    exact ⟨rfl, rfl⟩
  have d4 : decide ((f.n : Int) ≤ k) = false := decide_eq_false h4
  rw [if_neg (by omega)]
  go_enter Try.func58, Try.ntmps58
  go_wp2_with fail
  go_ret
  exact ⟨rfl, rfl⟩

section
variable (B p cb qb g : Nat) (lv : Value) (s : BS) (f : Ed) (pins sc : Value) (q : Pn) (w : World) (h : EpochM B w p cb qb lv s f pins sc) (hq : Blk w g 117 (pnCells qb g q)) (ht : 0 ≤ q.t ∧ q.t < 16) (hlen : s.lg.length < 1000000) (hB : B ≤ w.heap.size)
include h hq ht hlen hB
set_option maxRecDepth 100000 in
set_option maxHeartbeats 1000000 in
theorem pn_load : Calls Try.prog 60 #[.pointer (some ⟨g, 0, none⟩)] w (ERes B p cb qb g 117 lv f pins sc (s.load q.t f.ep) (pnCells qb g { q with seen := lk s.vs f.ep, ph := 10 }) w) := by
  have a0 : w.cell? ⟨g, 0, none⟩ = some (.pointer (some ⟨qb, 0, none⟩)) := hq.cell 0
  have a1 : w.cell? ⟨g, 1, none⟩ = some (.int .i64 q.t) := hq.cell 1
  have a2 : w.cell? ⟨g, 2, none⟩ = some (.int .u8 q.ph) := hq.cell 2
  have a4 : w.cell? ⟨g, 4, none⟩ = some (.int .i64 q.slot) := hq.cell 4
  have a5 : w.cell? ⟨g, 5, none⟩ = some (.int .u64 q.seen) := hq.cell 5
  have b0 : w.cell? ⟨qb, 0, none⟩ = some (.pointer (some ⟨p, 0, none⟩)) := h.fd.cell 0
  have b1 : w.cell? ⟨qb, 1, none⟩ = some (.int .i64 f.ep) := h.fd.cell 1
  have fa5 := hq.free 5
  have hn := h.b.hn
  have hke := h.ok.e
  go_enter Try.func60, Try.ntmps60
  go_wp2_with fail
  refine Mix.wp_region_mix (fun _ => True) (fun i => ([1, 0, 0, 0, 0, 0, 0, 0, 0, 0, 0, 0, 0, 0, 0, 0, 0, 0, 0, 0, 0, 0, 2, 0, 0, 1, 0, 0, 2] : List Nat).getD i 0) [0, 1, 2, 3, 4, 5, 6, 7, 8, 9, 10, 11, 12, 13, 14, 15, 16, 17, 18, 19, 20, 21, 22, 23, 24, 25, 26, 27, 28] (by kernel_rfl) (by kernel_rfl) ?_
  repeat (first | (refine Mix.mix_q (by simp only [List.getElem?_toArray, List.getElem?_cons_zero, List.getElem?_cons_succ]; exact rfl) rfl ?_; go_big_quiet_step (fail); refine wpQuiet_nil ?_) | (refine Mix.mix_p (by simp only [List.getElem?_toArray, List.getElem?_cons_zero, List.getElem?_cons_succ]; exact rfl) rfl rfl ?_; go_big_quiet_step (fail); refine wpQuiet_nil ?_))
  refine Mix.mix_e (by simp only [List.getElem?_toArray, List.getElem?_cons_zero, List.getElem?_cons_succ]; exact rfl) rfl fun W hW => ?_
  obtain ⟨n1, rfl⟩ := hW
  go_wp2_with fail
  refine (load_ok B p cb lv s q.t (f.ep : Nat) _ (bank_drew h.b n1) ⟨ht.1, ht.2, by omega, by omega⟩ hlen hB).mono ?_
  rintro e w1 ⟨rfl, hs1⟩
  obtain ⟨lv', hb1, hc1, hf1, hfd, hqd⟩ := eafter h hq hs1
  clear a0 a1 a2 a4 a5 b0 b1 fa5
  have a5 : w1.cell? ⟨g, 5, none⟩ = some (.int .u64 q.seen) := hqd.cell 5
  have fa5 := hqd.free 5
  have Hb1 := hid hb1
  have Hc1 := hid hc1
  have Hf1 := hid hf1
  have Hfd := hid hfd
  have Hqd := hid hqd
  clear hs1 hb1 hc1 hf1 hfd hqd
  rw [Int.toNat_natCast]
  go_wp2_with fail
  repeat (first | (refine Mix.mix_q (by simp only [List.getElem?_toArray, List.getElem?_cons_zero, List.getElem?_cons_succ]; exact rfl) rfl ?_; go_big_quiet_step (fail); refine wpQuiet_nil ?_) | (refine Mix.mix_p (by simp only [List.getElem?_toArray, List.getElem?_cons_zero, List.getElem?_cons_succ]; exact rfl) rfl rfl ?_; go_big_quiet_step (fail); refine wpQuiet_nil ?_))
  refine Mix.mix_e (by simp only [List.getElem?_toArray, List.getElem?_cons_zero, List.getElem?_cons_succ]; exact rfl) rfl fun W2 hW2 => ?_
  obtain ⟨n2, rfl⟩ := hW2
  go_wp2_with fail
  intro n3
  go_wp2_with fail
  have k2 := ((Hqd.out.drewN n2).put 5 (.int .u64 (lk s.vs f.ep))).drewN n3
  refine (then_any g 117 _ _ k2 (.int .u8 q.ph) (pnDo g q.ph) rfl rfl 10 72).mono ?_
  rintro e w3 ⟨rfl, k3, c3⟩
  go_wp2_with fail
  go_end0
  exact eres_close h Hb1.out Hc1.out Hf1.out Hfd.out Hqd.out rfl ((((Ch.refl (fun b => b = g) w1).drewN n2).set (fun _ => rfl) _).drewN n3 |>.trans c3 (fun _ _ h => h)) k3
set_option maxRecDepth 100000 in
set_option maxHeartbeats 1000000 in
theorem pn_ann (hs : q.slot < f.n) : Calls Try.prog 72 #[.pointer (some ⟨g, 0, none⟩)] w (ERes B p cb qb g 117 lv f pins sc (s.store q.t (f.slot q.slot : Nat) (w64 (q.seen + 1))) (pnCells qb g { q with ph := 0 }) w) := by
  have a0 : w.cell? ⟨g, 0, none⟩ = some (.pointer (some ⟨qb, 0, none⟩)) := hq.cell 0
  have a1 : w.cell? ⟨g, 1, none⟩ = some (.int .i64 q.t) := hq.cell 1
  have a2 : w.cell? ⟨g, 2, none⟩ = some (.int .u8 q.ph) := hq.cell 2
  have a4 : w.cell? ⟨g, 4, none⟩ = some (.int .i64 q.slot) := hq.cell 4
  have a5 : w.cell? ⟨g, 5, none⟩ = some (.int .u64 q.seen) := hq.cell 5
  have b0 : w.cell? ⟨qb, 0, none⟩ = some (.pointer (some ⟨p, 0, none⟩)) := h.fd.cell 0
  have b1 : w.cell? ⟨qb, 1, none⟩ = some (.int .i64 f.ep) := h.fd.cell 1
  have b2 : w.cell? ⟨qb, 2, none⟩ = some (.int .i64 f.sl) := h.fd.cell 2
  have hn := h.b.hn
  obtain ⟨hk1, hk2⟩ := slot_lt h.ok hs
  have hwr : IntKind.i64.wrap (f.sl + (q.slot : Int)) = (f.slot q.slot : Int) := by rw [hk1]; exact IntWalk.i64_in _ (by omega)
  have hw0 : IntKind.u64.wrap (q.seen + 1) = w64 (q.seen + 1) := w64_wrap _
  have hbd0 := w64_bd (q.seen + 1)
  obtain ⟨t1, ht1⟩ : ∃ t1, t1 = w64 (q.seen + 1) := ⟨_, rfl⟩
  rw [← ht1] at hw0 hbd0 ⊢
  obtain ⟨k, hk⟩ : ∃ k, k = f.slot q.slot := ⟨_, rfl⟩
  rw [← hk] at hk2 hwr ⊢
  have Hbd := hid hbd0
  clear ht1 hk hk1 hbd0 hs
  go_enter Try.func72, Try.ntmps72
  go_wp2_with fail
  refine Mix.wp_region_mix (fun _ => True) (fun i => ([0, 0, 0, 0, 0, 0, 0, 0, 0, 0, 0, 0, 0, 0, 0, 0, 0, 0, 0, 0, 0, 0, 0, 0, 0, 0, 0, 0, 0, 0, 0, 2] : List Nat).getD i 0) [0, 1, 2, 3, 4, 5, 6, 7, 8, 9, 10, 11, 12, 13, 14, 15, 16, 17, 18, 19, 20, 21, 22, 23, 24, 25, 26, 27, 28, 29, 30, 31] (by kernel_rfl) (by kernel_rfl) ?_
  repeat (first | (refine Mix.mix_q (by simp only [List.getElem?_toArray, List.getElem?_cons_zero, List.getElem?_cons_succ]; exact rfl) rfl ?_; go_big_quiet_step (fail); refine wpQuiet_nil ?_) | (refine Mix.mix_p (by simp only [List.getElem?_toArray, List.getElem?_cons_zero, List.getElem?_cons_succ]; exact rfl) rfl rfl ?_; go_big_quiet_step (fail); refine wpQuiet_nil ?_))
  refine Mix.mix_e (by simp only [List.getElem?_toArray, List.getElem?_cons_zero, List.getElem?_cons_succ]; exact rfl) rfl fun W hW => ?_
  obtain ⟨n1, rfl⟩ := hW
  go_wp2_with fail
  refine (store_ok B p cb lv s q.t (k : Nat) t1 _ (bank_drew h.b n1) ⟨ht.1, ht.2, by omega, by omega⟩ hlen hB Hbd.out).mono ?_
  rintro e w1 ⟨rfl, hs1⟩
  obtain ⟨lv', hb1, hc1, hf1, hfd, hqd⟩ := eafter h hq hs1
  clear a0 a1 a2 a4 a5 b0 b1 b2 hs1 hwr hw0
  have Hb1 := hid hb1
  have Hc1 := hid hc1
  have Hf1 := hid hf1
  have Hfd := hid hfd
  have Hqd := hid hqd
  clear hb1 hc1 hf1 hfd hqd
  go_wp2_with fail
  intro n2
  go_wp2_with fail
  refine (end_any g 117 _ _ (Hqd.out.drewN n2) (.int .u8 q.ph) (pnDo g q.ph) rfl rfl).mono ?_
  rintro e w3 ⟨rfl, k3, c3⟩
  go_wp2_with fail
  go_end0
  exact eres_close h Hb1.out Hc1.out Hf1.out Hfd.out Hqd.out (List.length_set ..) (((Ch.refl (fun b => b = g) w1).drewN n2).trans c3 (fun _ _ h => h)) k3
end
end Go.Proofs.Ytokcodeeaneeaaa
