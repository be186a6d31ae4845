/- The bank of cells: its methods. -/
import Derived.Test.YtonjbofdmmnpdaaCellA
namespace Go.Proofs.Ytonjbofdmmnpdaa
open Go.RowKit
set_option linter.unusedSimpArgs false
set_option linter.unusedVariables false

structure BS where
  vs : List Int
  lg : List Acc

def w64 (x : Int) : Int := x % 18446744073709551616
theorem w64_wrap (x : Int) : IntKind.u64.wrap x = w64 x := by simp [IntKind.wrap, w64, IntKind.signed, IntKind.bits]
theorem w64_bd (x : Int) : 0 ≤ w64 x ∧ w64 x < 18446744073709551616 := by unfold w64; omega

def BS.log (s : BS) (x : Acc) : BS := ⟨s.vs, s.lg ++ [x]⟩
def BS.setlog (s : BS) (c : Nat) (v : Int) (x : Acc) : BS := ⟨s.vs.set c v, s.lg ++ [x]⟩
def BS.fine (s : BS) (t c : Int) : Prop := 0 ≤ t ∧ t < 16 ∧ 0 ≤ c ∧ c < s.vs.length

theorem chk_fine {s : BS} {t c : Int} (h : s.fine t c) : chk s.vs.length t c = 0 := by
  obtain ⟨h1, h2, h3, h4⟩ := h
  unfold chk
  rw [if_neg (by omega), if_neg (by omega)]
theorem chk_not {s : BS} {t c : Int} (h : ¬ s.fine t c) : chk s.vs.length t c ≠ 0 := by
  unfold BS.fine at h
  unfold chk
  split
  · decide
  · split
    · decide
    · omega

/-- What a method does to the bank: it reads as s; p, its cells and its log alone have changed. -/
def FP (p cb : Nat) (lv : Value) : Nat → Prop := fun b => b = p ∨ b = cb ∨ lv.ownBlock = some b
def BStep (B : Nat) (w w' : World) (p cb : Nat) (lv : Value) (s : BS) : Prop := ∃ lv', Bank B w' p cb lv' s.vs s.lg ∧ Ch (FP p cb lv) w w' ∧ Fresh w lv lv'

theorem lk_bd {vs : List Int} (h : ∀ x ∈ vs, 0 ≤ x ∧ x < 18446744073709551616) (c : Nat) : 0 ≤ lk vs c ∧ lk vs c < 18446744073709551616 := by
  unfold lk
  by_cases hc : c < vs.length
  · rw [List.getD_eq_getElem?_getD, List.getElem?_eq_getElem hc]
    exact h _ (List.getElem_mem hc)
  · rw [List.getD_eq_getElem?_getD, List.getElem?_eq_none (by omega)]
    exact ⟨by decide, by decide⟩
theorem lk_set {vs : List Int} {c : Nat} (v : Int) (h : c < vs.length) : lk (vs.set c v) c = v := by simp [lk, h]
theorem set_bd {vs : List Int} (h : ∀ x ∈ vs, 0 ≤ x ∧ x < 18446744073709551616) (c : Nat) {v : Int} (hv : 0 ≤ v ∧ v < 18446744073709551616) : ∀ x ∈ vs.set c v, 0 ≤ x ∧ x < 18446744073709551616 := by
  intro x hx
  rcases List.mem_or_eq_of_mem_set hx with h1 | h1
  · exact h x h1
  · rw [h1]; exact hv

/-- A cell set. -/
theorem Bank.set {B : Nat} {w : World} {p cb : Nat} {lv : Value} {vs : List Int} {lg : List Acc} (h : Bank B w p cb lv vs lg) (c : Nat) {v : Int} (hv : 0 ≤ v ∧ v < 18446744073709551616) :
    Bank B (w.setCell ⟨cb, c, none⟩ (.int .u64 v)) p cb lv (vs.set c v) lg := by
  refine ⟨?_, ?_, ?_, set_bd h.hv c hv, by rw [List.length_set]; exact h.hn, h.bp, h.bc⟩
  · rw [List.length_set]; exact h.hp.far (h.hp.ne h.hc (by decide)) _
  · rw [← u64s_set]; exact h.hc.put c _
  · exact ((Ch.refl (fun b => b = cb) _).set (fun _ => rfl) _).own h.hl (fun k hk e => h.hc.own h.hl (by decide) (by rw [hk, e]))

theorem astore_run (w : World) (a : Addr) (x y : Int) (h : w.cell? a = some (.int .u64 x)) (hf : w.frozen? a = false) : Sem.run Try.prog (callFunc 75 #[.pointer (some a), .int .u64 y]) w = .ok (.value (.tuple #[])) (w.setCell a (.int .u64 y)) :=
  run_call_store Try.func75 (by kernel_rfl) (by kernel_rfl) (by kernel_rfl) (by kernel_rfl) h hf
theorem acas_hit (w : World) (a : Addr) (x y : Int) (h : w.cell? a = some (.int .u64 x)) (hf : w.frozen? a = false) : Sem.run Try.prog (callFunc 78 #[.pointer (some a), .int .u64 x, .int .u64 y]) w = .ok (.value (.bool true)) (w.setCell a (.int .u64 y)) :=
  run_call_cas_hit Try.func78 (by kernel_rfl) (by kernel_rfl) (by kernel_rfl) .u64 (by kernel_rfl) h hf
theorem acas_miss (w : World) (a : Addr) (x o y : Int) (h : w.cell? a = some (.int .u64 x)) (hf : w.frozen? a = false) (hne : ¬ x = o) : Sem.run Try.prog (callFunc 78 #[.pointer (some a), .int .u64 o, .int .u64 y]) w = .ok (.value (.bool false)) w :=
  run_call_cas_miss Try.func78 (by kernel_rfl) (by kernel_rfl) (by kernel_rfl) .u64 (by kernel_rfl) h hf hne

set_option maxHeartbeats 400000 in
theorem astore (w : World) (b o : Nat) (x y : Int) (h : w.cell? ⟨b, o, none⟩ = some (.int .u64 x)) (hf : w.frozen? ⟨b, o, none⟩ = false) :
    Calls Try.prog 56 #[.pointer (some ⟨b, o, none⟩), .int .u64 y] w fun e w' => e = .returned (.tuple #[]) ∧ w.setCell ⟨b, o, none⟩ (.int .u64 y) = w' := by
  have hr := astore_run w ⟨b, o, none⟩ x y h hf
  go_enter Try.func56, Try.ntmps56
  go_wp2
  go_end0
  exact ⟨rfl, rfl⟩
set_option maxHeartbeats 400000 in
theorem acas1 (w : World) (b o : Nat) (x y : Int) (h : w.cell? ⟨b, o, none⟩ = some (.int .u64 x)) (hf : w.frozen? ⟨b, o, none⟩ = false) :
    Calls Try.prog 76 #[.pointer (some ⟨b, o, none⟩), .int .u64 x, .int .u64 y] w fun e w' => e = .returned (.bool true) ∧ w.setCell ⟨b, o, none⟩ (.int .u64 y) = w' := by
  have hr := acas_hit w ⟨b, o, none⟩ x y h hf
  go_enter Try.func76, Try.ntmps76
  go_wp2
  go_ret
  exact ⟨rfl, rfl⟩
set_option maxHeartbeats 400000 in
theorem acas0 (w : World) (b o : Nat) (x z y : Int) (h : w.cell? ⟨b, o, none⟩ = some (.int .u64 x)) (hf : w.frozen? ⟨b, o, none⟩ = false) (hne : ¬ x = z) :
    Calls Try.prog 76 #[.pointer (some ⟨b, o, none⟩), .int .u64 z, .int .u64 y] w fun e w' => e = .returned (.bool false) ∧ w = w' := by
  have hr := acas_miss w ⟨b, o, none⟩ x z y h hf hne
  go_enter Try.func76, Try.ntmps76
  go_wp2
  go_ret
  exact ⟨rfl, rfl⟩

theorem aswap_run (w : World) (a : Addr) (x y : Int) (h : w.cell? a = some (.int .u64 x)) (hf : w.frozen? a = false) : Sem.run Try.prog (callFunc 79 #[.pointer (some a), .int .u64 y]) w = .ok (.value (.int .u64 x)) (w.setCell a (.int .u64 y)) := by
  rw [run_callFunc_extern (e := Extern.Atomic.swapT (.int .u64)) Try.func79 (by kernel_rfl) (by kernel_rfl) (by kernel_rfl) (by kernel_rfl)]
  change (Sem.run Try.prog (do
    let a' ← asAddr (.pointer (some a))
    let old ← Extern.Atomic.read (.int .u64) a'
    store a' (.int .u64 y) .atomic
    pure old) w).andThen _ = _
  simp [Extern.Atomic.read, asAddr, h, hf, run_store Try.prog w a (.int .u64 y) .atomic rfl, Result.andThen]
set_option maxHeartbeats 400000 in
theorem aswap (w : World) (b o : Nat) (x y : Int) (h : w.cell? ⟨b, o, none⟩ = some (.int .u64 x)) (hf : w.frozen? ⟨b, o, none⟩ = false) :
    Calls Try.prog 77 #[.pointer (some ⟨b, o, none⟩), .int .u64 y] w fun e w' => e = .returned (.int .u64 x) ∧ w.setCell ⟨b, o, none⟩ (.int .u64 y) = w' := by
  have hr := aswap_run w ⟨b, o, none⟩ x y h hf
  go_enter Try.func77, Try.ntmps77
  go_wp2
  go_ret
  exact ⟨rfl, rfl⟩

theorem fresh_set {w : World} {p : Addr} {u v v' : Value} (h : Fresh (w.setCell p u) v v') : Fresh w v v' := h.imp id (fun h b hb => by have := h b hb; simpa [World.setCell] using this)

def BS.load (s : BS) (t c : Int) : BS := s.log ⟨t, c, 1, lk s.vs c.toNat, lk s.vs c.toNat, false⟩

set_option maxHeartbeats 400000 in
theorem load_bad (B p cb : Nat) (lv : Value) (s : BS) (t c : Int) (w : World) (h : Bank B w p cb lv s.vs s.lg) (hk : ¬ s.fine t c) :
    Calls Try.prog 64 #[.pointer (some ⟨p, 0, none⟩), .int .i64 t, .int .i64 c] w fun e w' => e = .returned (.tuple #[.int .u64 0, .int .i64 (chk s.vs.length t c)]) ∧ w = w' := by
  have h0 := h.hp.cell 0
  simp only [List.getElem?_toArray, List.getElem?_cons_zero] at h0
  have hb : (chk s.vs.length t c != 0) = true := by rw [bne_iff_ne]; exact chk_not hk
  go_enter Try.func64, Try.ntmps64
  go_wp2_with (go_at_call 54; refine (check_any _ _ _ _ _ _ _ h0).mono ?_; rintro e w' ⟨rfl, rfl⟩)
  go_ret2
  exact ⟨rfl, rfl⟩

set_option maxHeartbeats 400000 in
theorem load_ok (B p cb : Nat) (lv : Value) (s : BS) (t c : Int) (w : World) (h : Bank B w p cb lv s.vs s.lg) (hk : s.fine t c) (hlen : s.lg.length < 1000000) (hB : B ≤ w.heap.size) :
    Calls Try.prog 64 #[.pointer (some ⟨p, 0, none⟩), .int .i64 t, .int .i64 c] w fun e w' => e = .returned (.tuple #[.int .u64 (lk s.vs c.toNat), .int .i64 0]) ∧ BStep B w w' p cb lv (s.load t c) := by
  have h0 := h.hp.cell 0
  simp only [List.getElem?_toArray, List.getElem?_cons_zero] at h0
  have hb : (chk s.vs.length t c != 0) = false := by rw [chk_fine hk]; rfl
  have hbb : chk s.vs.length t c = 0 := chk_fine hk
  obtain ⟨_, _, hc0, hc1⟩ := hk
  obtain ⟨c, rfl⟩ := Int.eq_ofNat_of_zero_le hc0
  try simp only [Int.toNat_natCast]
  have hcl : c < s.vs.length := by omega
  have hcell := (h.hc.cell c).trans (u64s_getD s.vs c hcl)
  have Hbb := hid hbb
  clear hbb
  go_enter Try.func64, Try.ntmps64
  go_wp2_with (first | (go_at_call 54; refine (check_any _ _ _ _ _ _ _ h0).mono ?_; rintro e w' ⟨rfl, rfl⟩) | (go_at_call 55; refine (aload _ _ _ _ hcell).mono ?_; rintro e w' ⟨rfl, rfl⟩))
  go_at_call 57
  refine (note_any B p cb lv s.vs s.lg t c 1 _ false _ h hcl hlen hB).mono ?_
  rintro e w' ⟨rfl, lv', hb', hc', hf'⟩
  go_wp2_with fail
  go_ret2
  exact ⟨rfl, lv', hb', hc'.mono (fun _ _ h => h.elim .inl (fun h => .inr (.inr h))), hf'⟩

set_option maxHeartbeats 400000 in
theorem store_bad (B p cb : Nat) (lv : Value) (s : BS) (t c : Int) (v : Int) (w : World) (h : Bank B w p cb lv s.vs s.lg) (hk : ¬ s.fine t c) :
    Calls Try.prog 22 #[.pointer (some ⟨p, 0, none⟩), .int .i64 t, .int .i64 c, .int .u64 v] w fun e w' => e = .returned (.int .i64 (chk s.vs.length t c)) ∧ w = w' := by
  have h0 := h.hp.cell 0
  simp only [List.getElem?_toArray, List.getElem?_cons_zero] at h0
  have hb : (chk s.vs.length t c != 0) = true := by rw [bne_iff_ne]; exact chk_not hk
  go_enter Try.func22, Try.ntmps22
  go_wp2_with (go_at_call 54; refine (check_any _ _ _ _ _ _ _ h0).mono ?_; rintro e w' ⟨rfl, rfl⟩)
  go_ret
  exact ⟨rfl, rfl⟩

set_option maxHeartbeats 400000 in
theorem swap_bad (B p cb : Nat) (lv : Value) (s : BS) (t c : Int) (v : Int) (w : World) (h : Bank B w p cb lv s.vs s.lg) (hk : ¬ s.fine t c) :
    Calls Try.prog 66 #[.pointer (some ⟨p, 0, none⟩), .int .i64 t, .int .i64 c, .int .u64 v] w fun e w' => e = .returned (.tuple #[.int .u64 0, .int .i64 (chk s.vs.length t c)]) ∧ w = w' := by
  have h0 := h.hp.cell 0
  simp only [List.getElem?_toArray, List.getElem?_cons_zero] at h0
  have hb : (chk s.vs.length t c != 0) = true := by rw [bne_iff_ne]; exact chk_not hk
  go_enter Try.func66, Try.ntmps66
  go_wp2_with (go_at_call 54; refine (check_any _ _ _ _ _ _ _ h0).mono ?_; rintro e w' ⟨rfl, rfl⟩)
  go_ret2
  exact ⟨rfl, rfl⟩

set_option maxHeartbeats 400000 in
theorem cas_bad (B p cb : Nat) (lv : Value) (s : BS) (t c : Int) (o v : Int) (w : World) (h : Bank B w p cb lv s.vs s.lg) (hk : ¬ s.fine t c) :
    Calls Try.prog 65 #[.pointer (some ⟨p, 0, none⟩), .int .i64 t, .int .i64 c, .int .u64 o, .int .u64 v] w fun e w' => e = .returned (.tuple #[.bool false, .int .i64 (chk s.vs.length t c)]) ∧ w = w' := by
  have h0 := h.hp.cell 0
  simp only [List.getElem?_toArray, List.getElem?_cons_zero] at h0
  have hb : (chk s.vs.length t c != 0) = true := by rw [bne_iff_ne]; exact chk_not hk
  go_enter Try.func65, Try.ntmps65
  go_wp2_with (go_at_call 54; refine (check_any _ _ _ _ _ _ _ h0).mono ?_; rintro e w' ⟨rfl, rfl⟩)
  go_ret2
  exact ⟨rfl, rfl⟩

def BS.store (s : BS) (t c v : Int) : BS := s.setlog c.toNat v ⟨t, c, 2, lk s.vs c.toNat, v, false⟩
def BS.add (s : BS) (t c v : Int) : BS := s.setlog c.toNat (w64 (lk s.vs c.toNat + v)) ⟨t, c, 3, lk s.vs c.toNat, w64 (lk s.vs c.toNat + v), false⟩
def BS.swap (s : BS) (t c v : Int) : BS := s.setlog c.toNat v ⟨t, c, 4, lk s.vs c.toNat, v, false⟩
def BS.cas (s : BS) (t c o v : Int) : BS := if lk s.vs c.toNat = o then s.setlog c.toNat v ⟨t, c, 5, lk s.vs c.toNat, v, true⟩ else s.log ⟨t, c, 5, lk s.vs c.toNat, lk s.vs c.toNat, false⟩
theorem w64_sub {x d : Int} (h : 0 ≤ x ∧ x < 18446744073709551616) : w64 (w64 (x + d) - d) = x := by unfold w64; omega

set_option maxHeartbeats 400000 in
theorem store_ok (B p cb : Nat) (lv : Value) (s : BS) (t c : Int) (v : Int) (w : World) (h : Bank B w p cb lv s.vs s.lg) (hk : s.fine t c) (hlen : s.lg.length < 1000000) (hB : B ≤ w.heap.size) (hv : 0 ≤ v ∧ v < 18446744073709551616) :
    Calls Try.prog 22 #[.pointer (some ⟨p, 0, none⟩), .int .i64 t, .int .i64 c, .int .u64 v] w fun e w' => e = .returned (.int .i64 0) ∧ BStep B w w' p cb lv (s.store t c v) := by
  have h0 := h.hp.cell 0
  simp only [List.getElem?_toArray, List.getElem?_cons_zero] at h0
  have hb : (chk s.vs.length t c != 0) = false := by rw [chk_fine hk]; rfl
  obtain ⟨_, _, hc0, hc1⟩ := hk
  obtain ⟨c, rfl⟩ := Int.eq_ofNat_of_zero_le hc0
  try simp only [Int.toNat_natCast]
  have hcl : c < s.vs.length := by omega
  have hcell := (h.hc.cell c).trans (u64s_getD s.vs c hcl)
  have hfree := h.hc.free c
  go_enter Try.func22, Try.ntmps22
  go_wp2_with (first | (go_at_call 54; refine (check_any _ _ _ _ _ _ _ h0).mono ?_; rintro e w' ⟨rfl, rfl⟩) | (go_at_call 55; refine (aload _ _ _ _ hcell).mono ?_; rintro e w' ⟨rfl, rfl⟩))
  go_at_call 56
  refine (astore _ _ _ _ v hcell hfree).mono ?_
  rintro e w' ⟨rfl, rfl⟩
  go_wp2_with fail
  go_at_call 57
  refine (note_any B p cb lv (s.vs.set c v) s.lg t c 2 _ false _ (h.set c hv) (by rw [List.length_set]; exact hcl) hlen (by simpa [World.setCell] using hB)).mono ?_
  rintro e w' ⟨rfl, lv', hb', hc', hf'⟩
  go_wp2_with fail
  go_ret
  refine ⟨rfl, lv', ?_, ?_, fresh_set hf'⟩
  · simpa only [BS.setlog, lk_set _ hcl, List.length_set, BS.store, Int.toNat_natCast] using hb'
  · exact ((Ch.refl (FP p cb lv) w).set (fun _ => .inr (.inl rfl)) _).trans hc' (fun _ _ h => h.elim .inl (fun h => .inr (.inr h)))

set_option maxHeartbeats 400000 in
theorem swap_ok (B p cb : Nat) (lv : Value) (s : BS) (t c : Int) (v : Int) (w : World) (h : Bank B w p cb lv s.vs s.lg) (hk : s.fine t c) (hlen : s.lg.length < 1000000) (hB : B ≤ w.heap.size) (hv : 0 ≤ v ∧ v < 18446744073709551616) :
    Calls Try.prog 66 #[.pointer (some ⟨p, 0, none⟩), .int .i64 t, .int .i64 c, .int .u64 v] w fun e w' => e = .returned (.tuple #[.int .u64 (lk s.vs c.toNat), .int .i64 0]) ∧ BStep B w w' p cb lv (s.swap t c v) := by
  have h0 := h.hp.cell 0
  simp only [List.getElem?_toArray, List.getElem?_cons_zero] at h0
  have hb : (chk s.vs.length t c != 0) = false := by rw [chk_fine hk]; rfl
  obtain ⟨_, _, hc0, hc1⟩ := hk
  obtain ⟨c, rfl⟩ := Int.eq_ofNat_of_zero_le hc0
  try simp only [Int.toNat_natCast]
  have hcl : c < s.vs.length := by omega
  have hcell := (h.hc.cell c).trans (u64s_getD s.vs c hcl)
  have hfree := h.hc.free c
  go_enter Try.func66, Try.ntmps66
  go_wp2_with (first | (go_at_call 54; refine (check_any _ _ _ _ _ _ _ h0).mono ?_; rintro e w' ⟨rfl, rfl⟩) | (go_at_call 55; refine (aload _ _ _ _ hcell).mono ?_; rintro e w' ⟨rfl, rfl⟩))
  go_at_call 77
  refine (aswap _ _ _ _ v hcell hfree).mono ?_
  rintro e w' ⟨rfl, rfl⟩
  go_wp2_with fail
  go_at_call 57
  refine (note_any B p cb lv (s.vs.set c v) s.lg t c 4 _ false _ (h.set c hv) (by rw [List.length_set]; exact hcl) hlen (by simpa [World.setCell] using hB)).mono ?_
  rintro e w' ⟨rfl, lv', hb', hc', hf'⟩
  go_wp2_with fail
  go_ret2
  refine ⟨rfl, lv', ?_, ?_, fresh_set hf'⟩
  · simpa only [BS.setlog, lk_set _ hcl, List.length_set, BS.swap, Int.toNat_natCast] using hb'
  · exact ((Ch.refl (FP p cb lv) w).set (fun _ => .inr (.inl rfl)) _).trans hc' (fun _ _ h => h.elim .inl (fun h => .inr (.inr h)))

set_option maxHeartbeats 400000 in
theorem cas_hit (B p cb : Nat) (lv : Value) (s : BS) (t c : Int) (v : Int) (w : World) (h : Bank B w p cb lv s.vs s.lg) (hk : s.fine t c) (hlen : s.lg.length < 1000000) (hB : B ≤ w.heap.size) (hv : 0 ≤ v ∧ v < 18446744073709551616) :
    Calls Try.prog 65 #[.pointer (some ⟨p, 0, none⟩), .int .i64 t, .int .i64 c, .int .u64 (lk s.vs c.toNat), .int .u64 v] w fun e w' => e = .returned (.tuple #[.bool true, .int .i64 0]) ∧ BStep B w w' p cb lv (s.cas t c (lk s.vs c.toNat) v) := by
  have h0 := h.hp.cell 0
  simp only [List.getElem?_toArray, List.getElem?_cons_zero] at h0
  have hb : (chk s.vs.length t c != 0) = false := by rw [chk_fine hk]; rfl
  obtain ⟨_, _, hc0, hc1⟩ := hk
  obtain ⟨c, rfl⟩ := Int.eq_ofNat_of_zero_le hc0
  try simp only [Int.toNat_natCast]
  have hcl : c < s.vs.length := by omega
  have hcell := (h.hc.cell c).trans (u64s_getD s.vs c hcl)
  have hfree := h.hc.free c
  go_enter Try.func65, Try.ntmps65
  go_wp2_with (first | (go_at_call 54; refine (check_any _ _ _ _ _ _ _ h0).mono ?_; rintro e w' ⟨rfl, rfl⟩) | (go_at_call 55; refine (aload _ _ _ _ hcell).mono ?_; rintro e w' ⟨rfl, rfl⟩))
  go_at_call 76
  refine (acas1 _ _ _ _ v hcell hfree).mono ?_
  rintro e w' ⟨rfl, rfl⟩
  go_wp2_with fail
  go_at_call 57
  refine (note_any B p cb lv (s.vs.set c v) s.lg t c 5 _ true _ (h.set c hv) (by rw [List.length_set]; exact hcl) hlen (by simpa [World.setCell] using hB)).mono ?_
  rintro e w' ⟨rfl, lv', hb', hc', hf'⟩
  go_wp2_with fail
  go_ret2
  refine ⟨rfl, lv', ?_, ?_, fresh_set hf'⟩
  · simpa only [BS.setlog, lk_set _ hcl, List.length_set, BS.cas, if_true, Int.toNat_natCast] using hb'
  · exact ((Ch.refl (FP p cb lv) w).set (fun _ => .inr (.inl rfl)) _).trans hc' (fun _ _ h => h.elim .inl (fun h => .inr (.inr h)))

set_option maxHeartbeats 400000 in
theorem cas_miss (B p cb : Nat) (lv : Value) (s : BS) (t c : Int) (o v : Int) (w : World) (h : Bank B w p cb lv s.vs s.lg) (hk : s.fine t c) (hlen : s.lg.length < 1000000) (hB : B ≤ w.heap.size) (ho : lk s.vs c.toNat ≠ o) :
    Calls Try.prog 65 #[.pointer (some ⟨p, 0, none⟩), .int .i64 t, .int .i64 c, .int .u64 o, .int .u64 v] w fun e w' => e = .returned (.tuple #[.bool false, .int .i64 0]) ∧ BStep B w w' p cb lv (s.cas t c o v) := by
  have h0 := h.hp.cell 0
  simp only [List.getElem?_toArray, List.getElem?_cons_zero] at h0
  have hb : (chk s.vs.length t c != 0) = false := by rw [chk_fine hk]; rfl
  obtain ⟨_, _, hc0, hc1⟩ := hk
  obtain ⟨c, rfl⟩ := Int.eq_ofNat_of_zero_le hc0
  try simp only [Int.toNat_natCast]
  have hcl : c < s.vs.length := by omega
  have hcell := (h.hc.cell c).trans (u64s_getD s.vs c hcl)
  have hfree := h.hc.free c
  rw [Int.toNat_natCast] at ho
  go_enter Try.func65, Try.ntmps65
  go_wp2_with (first | (go_at_call 54; refine (check_any _ _ _ _ _ _ _ h0).mono ?_; rintro e w' ⟨rfl, rfl⟩) | (go_at_call 55; refine (aload _ _ _ _ hcell).mono ?_; rintro e w' ⟨rfl, rfl⟩))
  go_at_call 76
  refine (acas0 _ _ _ _ _ v hcell hfree ho).mono ?_
  rintro e w' ⟨rfl, rfl⟩
  go_wp2_with fail
  go_at_call 57
  refine (note_any B p cb lv s.vs s.lg t c 5 _ false _ h hcl hlen hB).mono ?_
  rintro e w' ⟨rfl, lv', hb', hc', hf'⟩
  go_wp2_with fail
  go_ret2
  refine ⟨rfl, lv', ?_, hc'.mono (fun _ _ h => h.elim .inl (fun h => .inr (.inr h))), hf'⟩
  simpa only [BS.cas, Int.toNat_natCast, if_neg ho, BS.log] using hb'

theorem BStep.below {B : Nat} {w w' : World} {p cb : Nat} {lv : Value} {vs : List Int} {lg : List Acc} {s' : BS} (hs : BStep B w w' p cb lv s') (h : Bank B w p cb lv vs lg) (hB : B ≤ w.heap.size) : Below B w w' := by
  obtain ⟨_, _, hc, _⟩ := hs
  refine hc.below hB (fun j hj => ?_)
  rcases hj with rfl | rfl | hj
  · exact h.bp
  · exact h.bc
  · exact (h.hl.lt j hj).1

theorem cas_hit' (B p cb : Nat) (lv : Value) (s : BS) (t c o v : Int) (w : World) (h : Bank B w p cb lv s.vs s.lg) (hk : s.fine t c) (hlen : s.lg.length < 1000000) (hB : B ≤ w.heap.size) (hv : 0 ≤ v ∧ v < 18446744073709551616) (ho : lk s.vs c.toNat = o) :
    Calls Try.prog 65 #[.pointer (some ⟨p, 0, none⟩), .int .i64 t, .int .i64 c, .int .u64 o, .int .u64 v] w fun e w' => e = .returned (.tuple #[.bool true, .int .i64 0]) ∧ BStep B w w' p cb lv (s.setlog c.toNat v ⟨t, c, 5, o, v, true⟩) := by
  subst ho
  have := cas_hit B p cb lv s t c v w h hk hlen hB hv
  simpa only [BS.cas, if_true] using this
theorem cas_miss' (B p cb : Nat) (lv : Value) (s : BS) (t c o v : Int) (w : World) (h : Bank B w p cb lv s.vs s.lg) (hk : s.fine t c) (hlen : s.lg.length < 1000000) (hB : B ≤ w.heap.size) (ho : lk s.vs c.toNat ≠ o) :
    Calls Try.prog 65 #[.pointer (some ⟨p, 0, none⟩), .int .i64 t, .int .i64 c, .int .u64 o, .int .u64 v] w fun e w' => e = .returned (.tuple #[.bool false, .int .i64 0]) ∧ BStep B w w' p cb lv (s.log ⟨t, c, 5, lk s.vs c.toNat, lk s.vs c.toNat, false⟩) := by
  have := cas_miss B p cb lv s t c o v w h hk hlen hB ho
  simpa only [BS.cas, if_neg ho] using this
end Go.Proofs.Ytonjbofdmmnpdaa
