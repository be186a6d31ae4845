/- Lemmas that the proof of the last text leans on; no condition. -/
import Derived.Test.YtjcdknhejcbpiaaGreatRows
import Derived.Test.YtjcdknhejcbpiaaGreatNb02
import Derived.Test.YtjcdknhejcbpiaaGreatNb01
import Derived.BigGuardPart
import Derived.ProofKit
import Derived.OpenShut
import Derived.ShutString
import Derived.ChangeOld
import Derived.Below
import Derived.Deep.Slices
import Derived.Deep.Fields
import Derived.ChangeSame
import Derived.Laws.CopyOwn
import Derived.MapKept
namespace Go.Proofs.YtjcdknhejcbpiaaGreat
open Go.RowKit
set_option linter.unusedSimpArgs false
structure Acc where
  t : Int
  c : Int
  k : Int
  o : Int
  n : Int
  s : Bool
def Acc.cells (x : Acc) : List Value := [.int .i64 x.t, .int .i64 x.c, .int .u8 x.k, .int .u64 x.o, .int .u64 x.n, .bool x.s]
def logCells (l : List Acc) : List Value := l.flatMap Acc.cells
def u64s (l : List Int) : Array Value := (l.map (Value.int .u64)).toArray
theorem u64s_getD (l : List Int) (i : Nat) (h : i < l.length) : (u64s l)[i]? = some (.int .u64 (lk l i)) := by simp [u64s, lk, h]
theorem u64s_set (l : List Int) (i : Nat) (v : Int) : (u64s l).setIfInBounds i (.int .u64 v) = u64s (l.set i v) := by
  simp [u64s, List.map_set]
theorem logCells_snoc (l : List Acc) (x : Acc) : logCells (l ++ [x]) = logCells l ++ x.cells := by simp [logCells]
theorem logCells_length (l : List Acc) : (logCells l).length = l.length * 6 := by
  induction l with
  | nil => rfl
  | cons x l ih => simp only [logCells, List.flatMap_cons, List.length_append, List.length_cons] at ih ⊢; rw [ih]; simp [Acc.cells]; omega
structure Bank (B : Nat) (w : World) (p cb : Nat) (lv : Value) (vs : List Int) (lg : List Acc) : Prop where
  hp : Blk w p 147 #[.slice (some ⟨cb, 0, none⟩) vs.length vs.length, lv]
  hc : Blk w cb 152 (u64s vs)
  hl : w.ownsRow B 89 6 lv lg.length (logCells lg)
  hv : ∀ x ∈ vs, 0 ≤ x ∧ x < 18446744073709551616
  hn : vs.length ≤ 4096
  bp : B ≤ p
  bc : B ≤ cb
theorem Tryz.cells_cell : Tryz.prog.cellsOf 152 = 1 := by kernel_rfl
theorem Tryz.infoAcc : (Tryz.prog.info? 89).map (fun i => (i.zero, i.size, i.bytes)) = some (some (.agg #[.int .i64 0, .int .i64 0, .int .u8 0, .int .u64 0, .int .u64 0, .bool false]), 6, 48) := by kernel_rfl
theorem Bank.ch {B : Nat} {w w' : World} {p cb : Nat} {lv : Value} {vs : List Int} {lg : List Acc} {fp : Nat → Prop} (h : Bank B w p cb lv vs lg) (c : Ch fp w w')
    (h1 : ¬ fp p) (h2 : ¬ fp cb) (h3 : ∀ k, lv.ownBlock = some k → ¬ fp k) : Bank B w' p cb lv vs lg :=
  ⟨c.blk h.hp h1, c.blk h.hc h2, c.own h.hl h3, h.hv, h.hn, h.bp, h.bc⟩
def chk (n : Nat) (t c : Int) : Int := if t < 0 ∨ 16 ≤ t then 2 else if c < 0 ∨ (n : Int) ≤ c then 3 else 0
set_option linter.unusedVariables false
set_option maxHeartbeats 400000 in
theorem check_any (p : Nat) (t c : Int) (n cp : Nat) (a : Option Addr) (w : World) (h0 : w.cell? ⟨p, 0, none⟩ = some (.slice a n cp)) :
    Calls Tryz.prog 74 #[.pointer (some ⟨p, 0, none⟩), .int .i64 t, .int .i64 c] w fun e w' => e = .returned (.int .i64 (chk n t c)) ∧ w = w' := by
  unfold chk
  by_cases h1 : t < 0
  · go_enter Tryz.func74, Tryz.ntmps74
    go_wp2
    go_ret
    exact ⟨by simp, rfl⟩
  · have h1' : 0 ≤ t := by omega
    by_cases h2 : t < 16
    · have h2' : ¬ 16 ≤ t := by omega
      by_cases h3 : c < 0
      · go_enter Tryz.func74, Tryz.ntmps74
        go_wp2
        go_ret
        exact ⟨by simp, rfl⟩
      · have h3' : 0 ≤ c := by omega
        by_cases h4 : c < n
        · have h4' : ¬ (n : Int) ≤ c := by omega
          go_enter Tryz.func74, Tryz.ntmps74
          go_wp2
          go_ret
          exact ⟨by simp, rfl⟩
        · have h4' : (n : Int) ≤ c := by omega
          go_enter Tryz.func74, Tryz.ntmps74
          go_wp2
          go_ret
          exact ⟨by simp, rfl⟩
    · have h2' : 16 ≤ t := by omega
      go_enter Tryz.func74, Tryz.ntmps74
      go_wp2
      go_ret
      exact ⟨by simp, rfl⟩
theorem aload_run (w : World) (a : Addr) (x : Int) (h : w.cell? a = some (.int .u64 x)) : Sem.run Tryz.prog (callFunc 87 #[.pointer (some a)]) w = .ok (.value (.int .u64 x)) w :=
  run_call_load Tryz.func87 (by kernel_rfl) (by kernel_rfl) (by kernel_rfl) .u64 (by kernel_rfl) h
set_option maxHeartbeats 400000 in
theorem aload (w : World) (b o : Nat) (x : Int) (h : w.cell? ⟨b, o, none⟩ = some (.int .u64 x)) :
    Calls Tryz.prog 53 #[.pointer (some ⟨b, o, none⟩)] w fun e w' => e = .returned (.int .u64 x) ∧ w = w' := by
  have hr := aload_run w ⟨b, o, none⟩ x h
  go_enter Tryz.func53, Tryz.ntmps53
  go_wp2
  go_ret
  exact ⟨rfl, rfl⟩
set_option maxHeartbeats 400000 in
theorem note_any (B p cb : Nat) (lv : Value) (vs : List Int) (lg : List Acc) (t : Int) (c : Nat) (k o : Int) (s : Bool) (w : World) (h : Bank B w p cb lv vs lg) (hc : c < vs.length) (hlen : lg.length < 1000000) (hB : B ≤ w.heap.size) :
    Calls Tryz.prog 76 #[.pointer (some ⟨p, 0, none⟩), .int .i64 t, .int .i64 c, .int .u8 k, .int .u64 o, .bool s] w fun e w' => e = .returned (.tuple #[]) ∧
      ∃ lv', Bank B w' p cb lv' vs (lg ++ [⟨t, c, k, o, lk vs c, s⟩]) ∧ Ch (fun b => b = p ∨ lv.ownBlock = some b) w w' ∧ (lv'.ownBlock = lv.ownBlock ∨ ∀ b, lv'.ownBlock = some b → w.heap.size ≤ b) := by
  obtain ⟨i0, hi, hz0, hz1, hz2⟩ := info_parts Tryz.infoAcc
  obtain ⟨A, cap, rfl, _⟩ := own_slice h.hl
  have hplt := h.hp.lt
  have h0 := h.hp.cell 0
  have h1 := h.hp.cell 1
  have hcell := (h.hc.cell c).trans (u64s_getD vs c hc)
  simp only [List.getElem?_toArray, List.getElem?_cons_zero, List.getElem?_cons_succ] at h0 h1
  go_enter Tryz.func76, Tryz.ntmps76
  obtain ⟨S, hS⟩ : ∃ S : Nat → Prop, ∀ k, S k ↔ k < w.heap.size := ⟨_, fun _ => Iff.rfl⟩
  have hSp : Mix.Has S p := (hS p).2 h.hp.lt
  have HS := hid hS
  clear hS
  refine Mix.wp_region_mix S (fun i => ([1, 1, 1, 1, 4, 0, 0, 0, 0, 0, 0, 0, 0, 0, 0, 0, 0, 0, 3, 2, 0, 0, 2] : List Nat).getD i 0) [0, 1, 2, 3, 4, 5, 6, 7, 8, 9, 10, 11, 12, 13, 14, 15, 16, 17, 18, 19, 20, 21, 22] (by kernel_rfl) (by kernel_rfl) ?_
  repeat (first | (refine Mix.mix_q (by simp only [List.getElem?_toArray, List.getElem?_cons_zero, List.getElem?_cons_succ]; exact rfl) rfl ?_; go_big_quiet_step ((go_at_call 53; refine Calls.mono (aload _ _ _ _ (by assumption)) ?_; rintro e w' ⟨rfl, rfl⟩; exact ⟨rfl, _, rfl⟩)); refine wpQuiet_nil ?_) | (refine Mix.mix_p (by simp only [List.getElem?_toArray, List.getElem?_cons_zero, List.getElem?_cons_succ]; exact rfl) rfl rfl ?_; go_big_quiet_step (fail); refine wpQuiet_nil ?_) | (refine Mix.mix_s (by simp only [List.getElem?_toArray, List.getElem?_cons_zero, List.getElem?_cons_succ]; exact rfl) rfl rfl ?_; go_big_quiet_step (fail); refine wpQuiet_nil ?_))
  refine Mix.mix_a (by simp only [List.getElem?_toArray, List.getElem?_cons_zero, List.getElem?_cons_succ]; exact rfl) rfl fun W0 hW0 => ?_
  obtain ⟨n1, rfl⟩ := hW0
  go_wp2_with fail
  refine ⟨fun k hk => Below.heap_alloc _ _ k ((HS.out k).1 hk), Mix.mix_world fun W1 hW1 => ?_⟩
  have cW : Ch (fun _ => False) w W1 := by rw [hW1]; exact Ch.push rfl rfl rfl rfl
  have nW : Blk W1 w.heap.size 89 #[.int .i64 t, .int .i64 c, .int .u8 k, .int .u64 o, .int .u64 (lk vs c), .bool s] := by rw [hW1]; exact Blk.push rfl
  clear hW1
  refine Mix.mix_e (by simp only [List.getElem?_toArray, List.getElem?_cons_zero, List.getElem?_cons_succ]; exact rfl) rfl fun W2 hW2 => ?_
  obtain ⟨n2, rfl⟩ := hW2
  refine wpList_app _ rfl _ _ 86 rfl B 89 i0 _ 6 48 Tryz.underlying86 hi hz0 hz1 hz2 rfl (by decide) _ _ _ rfl ((cW.drewN n2).own h.hl (fun _ _ => id)) ⟨w.heap.size, 0, none⟩ 1 1 (Acc.cells ⟨t, c, k, o, lk vs c, s⟩) rfl rfl ?c1 ?c2 (by decide) ?c3 ?c4 ?c5 ?_
  case c1 =>
    intro j u hu
    rw [addr_add0, (nW.drewN n2).cell j]
    simpa [Acc.cells] using hu
  case c2 => intro u hu; simp [Acc.cells] at hu; rcases hu with rfl | rfl | rfl | rfl | rfl | rfl <;> rfl
  case c3 => unfold maxLen; omega
  case c4 => omega
  case c5 => have := cW.size; exact Nat.le_trans hB this
  intro v' w' hown hgrow hfresh
  have c1 : Ch (fun b => (Value.slice A lg.length cap).ownBlock = some b) w w' := ((cW.drewN n2).mono (fun _ _ h => h.elim)).grown hgrow (fun k hk _ => hk)
  have hp' : Blk w' p 147 #[.slice (some ⟨cb, 0, none⟩) vs.length vs.length, .slice A lg.length cap] := c1.blk h.hp (h.hp.own h.hl (by decide))
  have hc' : Blk w' cb 152 (u64s vs) := c1.blk h.hc (h.hc.own h.hl (by decide))
  obtain ⟨g, cap', rfl, _, _, hg1, hg2⟩ := own_form hown (by omega)
  have hrow : (Value.slice (some ⟨g, 0, none⟩) (lg.length + 1) cap').ownBlock = (Value.slice A lg.length cap).ownBlock ∨ w.heap.size ≤ g := by
    rcases hfresh with h | h
    · exact .inl h
    · exact .inr (Nat.le_trans cW.size (h g rfl))
  clear cW nW hgrow
  go_wp2_with fail
  have h1' := hp'.cell 1
  have f1' := hp'.free 1
  simp only [List.getElem?_toArray, List.getElem?_cons_zero, List.getElem?_cons_succ] at h1'
  repeat (refine Mix.mix_q (by simp only [List.getElem?_toArray, List.getElem?_cons_zero, List.getElem?_cons_succ]; exact rfl) rfl ?_; go_big_quiet_step (fail); refine wpQuiet_nil ?_)
  refine Mix.mix_e (by simp only [List.getElem?_toArray, List.getElem?_cons_zero, List.getElem?_cons_succ]; exact rfl) rfl fun W4 hW4 => ?_
  obtain ⟨n4, rfl⟩ := hW4
  go_wp2_with fail
  intro n5
  go_end0
  refine ⟨rfl, .slice (some ⟨g, 0, none⟩) (lg.length + 1) cap', ⟨(hp'.drewN n4).put 1 _, ((hc'.drewN n4).far (hc'.ne hp' (by decide)) _), ?_, h.hv, h.hn, h.bp, h.bc⟩, ?_, ?_⟩
  · rw [logCells_snoc, List.length_append]
    exact (Ch.refl (fun b => b = p) _).setCell (fun _ => rfl) _ |>.own hown (fun k hk e => hp'.own hown (by decide) (by rw [hk, e]))
  · have c2 : Ch (fun b => b = p ∨ (Value.slice A lg.length cap).ownBlock = some b) w w' := c1.mono (fun _ _ h => Or.inr h)
    exact ((c2.drewN n4).set (fun _ => .inl rfl) _).drewN n5
  · rcases hrow with h | h
    · exact .inl h
    · refine .inr fun b hb => ?_
      simp [Value.ownBlock] at hb
      omega
structure BS where
  vs : List Int
  lg : List Acc
def w64 (x : Int) : Int := x % 18446744073709551616
theorem w64_wrap (x : Int) : IntKind.u64.wrap x = w64 x := by simp [IntKind.wrap, w64, IntKind.signed, IntKind.bits]
theorem w64_bd (x : Int) : 0 ≤ w64 x ∧ w64 x < 18446744073709551616 := by unfold w64; omega
def BS.log (s : BS) (x : Acc) : BS := ⟨s.vs, s.lg ++ [x]⟩
def BS.setlog (s : BS) (c : Nat) (v : Int) (x : Acc) : BS := ⟨s.vs.set c v, s.lg ++ [x]⟩
def BS.fine (s : BS) (t c : Int) : Prop := 0 ≤ t ∧ t < 16 ∧ 0 ≤ c ∧ c < s.vs.length
theorem chk_fine {s : BS} {t c : Int} (h : s.fine t c) : chk s.vs.length t c = 0 := by
  obtain ⟨h1, h2, h3, h4⟩ := h
  unfold chk
  rw [if_neg (by omega), if_neg (by omega)]
def FP (p cb : Nat) (lv : Value) : Nat → Prop := fun b => b = p ∨ b = cb ∨ lv.ownBlock = some b
def BStep (B : Nat) (w w' : World) (p cb : Nat) (lv : Value) (s : BS) : Prop := ∃ lv', Bank B w' p cb lv' s.vs s.lg ∧ Ch (FP p cb lv) w w' ∧ Fresh w lv lv'
theorem lk_set {vs : List Int} {c : Nat} (v : Int) (h : c < vs.length) : lk (vs.set c v) c = v := by simp [lk, h]
theorem set_bd {vs : List Int} (h : ∀ x ∈ vs, 0 ≤ x ∧ x < 18446744073709551616) (c : Nat) {v : Int} (hv : 0 ≤ v ∧ v < 18446744073709551616) : ∀ x ∈ vs.set c v, 0 ≤ x ∧ x < 18446744073709551616 := by
  intro x hx
  rcases List.mem_or_eq_of_mem_set hx with h1 | h1
  · exact h x h1
  · rw [h1]; exact hv
theorem Bank.set {B : Nat} {w : World} {p cb : Nat} {lv : Value} {vs : List Int} {lg : List Acc} (h : Bank B w p cb lv vs lg) (c : Nat) {v : Int} (hv : 0 ≤ v ∧ v < 18446744073709551616) :
    Bank B (w.setCell ⟨cb, c, none⟩ (.int .u64 v)) p cb lv (vs.set c v) lg := by
  refine ⟨?_, ?_, ?_, set_bd h.hv c hv, by rw [List.length_set]; exact h.hn, h.bp, h.bc⟩
  · rw [List.length_set]; exact h.hp.far (h.hp.ne h.hc (by decide)) _
  · rw [← u64s_set]; exact h.hc.put c _
  · exact ((Ch.refl (fun b => b = cb) _).set (fun _ => rfl) _).own h.hl (fun k hk e => h.hc.own h.hl (by decide) (by rw [hk, e]))
theorem astore_run (w : World) (a : Addr) (x y : Int) (h : w.cell? a = some (.int .u64 x)) (hf : w.frozen? a = false) : Sem.run Tryz.prog (callFunc 113 #[.pointer (some a), .int .u64 y]) w = .ok (.value (.tuple #[])) (w.setCell a (.int .u64 y)) :=
  run_call_store Tryz.func113 (by kernel_rfl) (by kernel_rfl) (by kernel_rfl) (by kernel_rfl) h hf
set_option maxHeartbeats 400000 in
theorem astore (w : World) (b o : Nat) (x y : Int) (h : w.cell? ⟨b, o, none⟩ = some (.int .u64 x)) (hf : w.frozen? ⟨b, o, none⟩ = false) :
    Calls Tryz.prog 75 #[.pointer (some ⟨b, o, none⟩), .int .u64 y] w fun e w' => e = .returned (.tuple #[]) ∧ w.setCell ⟨b, o, none⟩ (.int .u64 y) = w' := by
  have hr := astore_run w ⟨b, o, none⟩ x y h hf
  go_enter Tryz.func75, Tryz.ntmps75
  go_wp2
  go_end0
  exact ⟨rfl, rfl⟩
theorem fresh_set {w : World} {p : Addr} {u v v' : Value} (h : Fresh (w.setCell p u) v v') : Fresh w v v' := h.imp id (fun h b hb => by have := h b hb; simpa [World.setCell] using this)
def BS.load (s : BS) (t c : Int) : BS := s.log ⟨t, c, 1, lk s.vs c.toNat, lk s.vs c.toNat, false⟩
set_option maxHeartbeats 400000 in
theorem load_ok (B p cb : Nat) (lv : Value) (s : BS) (t c : Int) (w : World) (h : Bank B w p cb lv s.vs s.lg) (hk : s.fine t c) (hlen : s.lg.length < 1000000) (hB : B ≤ w.heap.size) :
    Calls Tryz.prog 95 #[.pointer (some ⟨p, 0, none⟩), .int .i64 t, .int .i64 c] w fun e w' => e = .returned (.tuple #[.int .u64 (lk s.vs c.toNat), .int .i64 0]) ∧ BStep B w w' p cb lv (s.load t c) := by
  have h0 := h.hp.cell 0
  simp only [List.getElem?_toArray, List.getElem?_cons_zero] at h0
  have hb : (chk s.vs.length t c != 0) = false := by rw [chk_fine hk]; rfl
  have hbb : chk s.vs.length t c = 0 := chk_fine hk
  obtain ⟨_, _, hc0, hc1⟩ := hk
  obtain ⟨c, rfl⟩ := Int.eq_ofNat_of_zero_le hc0
  try simp only [Int.toNat_natCast]
  have hcl : c < s.vs.length := by omega
  have hcell := (h.hc.cell c).trans (u64s_getD s.vs c hcl)
  have Hbb := hid hbb
  clear hbb
  go_enter Tryz.func95, Tryz.ntmps95
  go_wp2_with (first | (go_at_call 74; refine (check_any _ _ _ _ _ _ _ h0).mono ?_; rintro e w' ⟨rfl, rfl⟩) | (go_at_call 53; refine (aload _ _ _ _ hcell).mono ?_; rintro e w' ⟨rfl, rfl⟩))
  go_at_call 76
  refine (note_any B p cb lv s.vs s.lg t c 1 _ false _ h hcl hlen hB).mono ?_
  rintro e w' ⟨rfl, lv', hb', hc', hf'⟩
  go_wp2_with fail
  go_ret2
  exact ⟨rfl, lv', hb', hc'.mono (fun _ _ h => h.elim .inl (fun h => .inr (.inr h))), hf'⟩
def BS.store (s : BS) (t c v : Int) : BS := s.setlog c.toNat v ⟨t, c, 2, lk s.vs c.toNat, v, false⟩
set_option maxHeartbeats 400000 in
theorem store_ok (B p cb : Nat) (lv : Value) (s : BS) (t c : Int) (v : Int) (w : World) (h : Bank B w p cb lv s.vs s.lg) (hk : s.fine t c) (hlen : s.lg.length < 1000000) (hB : B ≤ w.heap.size) (hv : 0 ≤ v ∧ v < 18446744073709551616) :
    Calls Tryz.prog 42 #[.pointer (some ⟨p, 0, none⟩), .int .i64 t, .int .i64 c, .int .u64 v] w fun e w' => e = .returned (.int .i64 0) ∧ BStep B w w' p cb lv (s.store t c v) := by
  have h0 := h.hp.cell 0
  simp only [List.getElem?_toArray, List.getElem?_cons_zero] at h0
  have hb : (chk s.vs.length t c != 0) = false := by rw [chk_fine hk]; rfl
  obtain ⟨_, _, hc0, hc1⟩ := hk
  obtain ⟨c, rfl⟩ := Int.eq_ofNat_of_zero_le hc0
  try simp only [Int.toNat_natCast]
  have hcl : c < s.vs.length := by omega
  have hcell := (h.hc.cell c).trans (u64s_getD s.vs c hcl)
  have hfree := h.hc.free c
  go_enter Tryz.func42, Tryz.ntmps42
  go_wp2_with (first | (go_at_call 74; refine (check_any _ _ _ _ _ _ _ h0).mono ?_; rintro e w' ⟨rfl, rfl⟩) | (go_at_call 53; refine (aload _ _ _ _ hcell).mono ?_; rintro e w' ⟨rfl, rfl⟩))
  go_at_call 75
  refine (astore _ _ _ _ v hcell hfree).mono ?_
  rintro e w' ⟨rfl, rfl⟩
  go_wp2_with fail
  go_at_call 76
  refine (note_any B p cb lv (s.vs.set c v) s.lg t c 2 _ false _ (h.set c hv) (by rw [List.length_set]; exact hcl) hlen (by simpa [World.setCell] using hB)).mono ?_
  rintro e w' ⟨rfl, lv', hb', hc', hf'⟩
  go_wp2_with fail
  go_ret
  refine ⟨rfl, lv', ?_, ?_, fresh_set hf'⟩
  · simpa only [BS.setlog, lk_set _ hcl, List.length_set, BS.store, Int.toNat_natCast] using hb'
  · exact ((Ch.refl (FP p cb lv) w).set (fun _ => .inr (.inl rfl)) _).trans hc' (fun _ _ h => h.elim .inl (fun h => .inr (.inr h)))
theorem made_u64 (n : Nat) : madeCells #[.int .u64 0] n = u64s (List.replicate n 0) := by
  unfold madeCells u64s
  apply Array.ext
  · simp
  · intro i h1 h2
    simp only [Array.getElem_map, List.map_replicate, List.getElem_toArray, List.getElem_replicate]
    rw [getElem!_pos #[Value.int .u64 0] _ (by simp [Nat.mod_one])]
    simp [Nat.mod_one]
theorem run_make_u64 {P : Program} (t e : TypeId) (i : TypeInfo) (z : Value) (ht : P.underlying t = some (.slice e)) (hi : (P.info? e).map (fun i => (i.zero, i.size, i.bytes)) = some (some z, 1, 8)) (hz : z.cells = #[.int .u64 0])
    (n : Nat) (hn : n ≤ 1000000) (w : World) : (Instr.makeSlice t (.int .i64 (n : Int)) (.int .i64 (n : Int))).run P w = .ok (.slice (some ⟨w.heap.size, 0, none⟩) n n) (w.alloc (.cells (u64s (List.replicate n 0)) e)) := by
  obtain ⟨i, hi, hz0, hz1, hz2⟩ := info_parts hi
  have hr := run_make (P := P) w t e i z ht hi hz0 .i64 .i64 n n (by omega) (Int.le_refl _) (by rw [hz2]; omega) (by omega)
  simp only [Int.toNat_natCast] at hr
  rw [hr, hz1, Nat.mul_one, hz, made_u64]
theorem Tryz.infoCell : (Tryz.prog.info? 152).map (fun i => (i.zero, i.size, i.bytes)) = some (some (.agg #[.int .u64 0]), 1, 8) := by kernel_rfl
theorem Tryz.infoU64 : (Tryz.prog.info? 54).map (fun i => (i.zero, i.size, i.bytes)) = some (some (.int .u64 0), 1, 8) := by kernel_rfl
def NewBank (B n : Nat) (w : World) (e : Ending) (w' : World) : Prop :=
  ∃ p cb, e = .returned (.tuple #[.pointer (some ⟨p, 0, none⟩), .int .i64 0]) ∧ Bank B w' p cb (.slice none 0 0) (List.replicate n 0) [] ∧ Ch (fun _ => False) w w' ∧ w.heap.size ≤ p ∧ w.heap.size ≤ cb
set_option maxHeartbeats 400000 in
theorem new_ok (B n : Nat) (h1 : 1 ≤ n) (h2 : n ≤ 4096) (w : World) (hB : B ≤ w.heap.size) : Calls Tryz.prog 45 #[.int .i64 n] w (NewBank B n w) := by
  have hmk := run_make_u64 (P := Tryz.prog) 145 152 default _ Tryz.underlying145 Tryz.infoCell rfl n (by omega)
  go_enter Tryz.func45, Tryz.ntmps45
  go_wp2
  go_ret2
  refine ⟨w.heap.size + 1, w.heap.size, rfl, ⟨?_, ?_, World.ownsRow_nil _ _ _ _, ?_, by simpa using h2, by omega, hB⟩, ((Ch.refl _ w).alloc _).alloc _, by omega, Nat.le_refl _⟩
  · rw [List.length_replicate]
    have := Blk.new (w.alloc (.cells (u64s (List.replicate n 0)) 152)) 147 #[.slice (some ⟨w.heap.size, 0, none⟩) n n, .slice none 0 0]
    simpa using this
  · exact (Blk.new w _ _).alloc _
  · intro x hx
    rw [List.eq_of_mem_replicate hx]
    decide
set_option maxHeartbeats 400000 in
theorem peek_ok (B p cb : Nat) (lv : Value) (s : BS) (c : Int) (w : World) (h : Bank B w p cb lv s.vs s.lg) (hc0 : 0 ≤ c) (hc1 : c < s.vs.length) :
    Calls Tryz.prog 30 #[.pointer (some ⟨p, 0, none⟩), .int .i64 c] w fun e w' => e = .returned (.tuple #[.int .u64 (lk s.vs c.toNat), .bool true]) ∧ w = w' := by
  have h0 := h.hp.cell 0
  simp only [List.getElem?_toArray, List.getElem?_cons_zero] at h0
  obtain ⟨c, rfl⟩ := Int.eq_ofNat_of_zero_le hc0
  try simp only [Int.toNat_natCast]
  have hcl : c < s.vs.length := by omega
  have hcell := (h.hc.cell c).trans (u64s_getD s.vs c hcl)
  go_enter Tryz.func30, Tryz.ntmps30
  go_wp2_with (go_at_call 53; refine (aload _ _ _ _ hcell).mono ?_; rintro e w' ⟨rfl, rfl⟩)
  go_ret2
  exact ⟨rfl, rfl⟩
set_option maxHeartbeats 400000 in
theorem len_any (B p cb : Nat) (lv : Value) (s : BS) (w : World) (h : Bank B w p cb lv s.vs s.lg) :
    Calls Tryz.prog 28 #[.pointer (some ⟨p, 0, none⟩)] w fun e w' => e = .returned (.int .i64 s.lg.length) ∧ w = w' := by
  obtain ⟨A, cap, rfl, _⟩ := own_slice h.hl
  have h1 := h.hp.cell 1
  simp only [List.getElem?_toArray, List.getElem?_cons_zero, List.getElem?_cons_succ] at h1
  go_enter Tryz.func28, Tryz.ntmps28
  go_wp2
  go_ret
  exact ⟨rfl, rfl⟩
def Words (B : Nat) (w w' : World) (vs : List Int) (e : Ending) : Prop := ∃ b, e = .returned (.slice (some ⟨b, 0, none⟩) vs.length vs.length) ∧ Blk w' b 54 (u64s vs) ∧ Ch (fun _ => False) w w' ∧ w.heap.size ≤ b
theorem values_fill (vs : List Int) (k : Nat) (h : k < vs.length) : (u64s (vs.take k ++ List.replicate (vs.length - k) 0)).setIfInBounds k (.int .u64 (lk vs k)) = u64s (vs.take (k + 1) ++ List.replicate (vs.length - (k + 1)) 0) := by
  rw [u64s_set]
  congr 1
  apply List.ext_getElem?
  intro i
  rw [List.getElem?_set]
  simp only [List.length_append, List.length_take, List.length_replicate]
  by_cases hi : k = i
  · subst hi
    rw [if_pos rfl, if_pos (by omega), List.getElem?_append_left (by simp; omega), List.getElem?_take, if_pos (by omega), List.getElem?_eq_getElem h]
    simp [lk, h]
  · rw [if_neg hi]
    rcases Nat.lt_or_ge i k with h1 | h1
    · rw [List.getElem?_append_left (by simp; omega), List.getElem?_append_left (by simp; omega), List.getElem?_take, List.getElem?_take, if_pos h1, if_pos (by omega)]
    · rw [List.getElem?_append_right (by simp; omega), List.getElem?_append_right (by simp; omega)]
      simp only [List.length_take, List.getElem?_replicate]
      congr 1
      simp only [eq_iff_iff]
      omega
set_option maxHeartbeats 400000 in
theorem values_any (B p cb : Nat) (lv : Value) (s : BS) (w : World) (h : Bank B w p cb lv s.vs s.lg) :
    Calls Tryz.prog 82 #[.pointer (some ⟨p, 0, none⟩)] w fun e w' => Words B w w' s.vs e := by
  have h0 := h.hp.cell 0
  have hplt := h.hp.lt
  simp only [List.getElem?_toArray, List.getElem?_cons_zero] at h0
  have hn := h.hn
  have hmk := run_make_u64 (P := Tryz.prog) 189 54 default _ Tryz.underlying189 Tryz.infoU64 rfl s.vs.length (by omega)
  go_enter Tryz.func82, Tryz.ntmps82
  go_wp2
  go_loopw [15] (fun i wr => ∃ k : Nat, k ≤ s.vs.length ∧ i = .int .i64 k ∧ Blk wr w.heap.size 54 (u64s (s.vs.take k ++ List.replicate (s.vs.length - k) 0)) ∧ Ch (fun _ => False) w wr) (fun i _ => s.vs.length - (intOf i).toNat)
  case atStart => exact ⟨0, Nat.zero_le _, rfl, by simpa using Blk.new w _ _, (Ch.refl _ w).alloc _⟩
  case round =>
    obtain ⟨k, hk, rfl, hb, hch⟩ := hrel
    have h0' := (hch.cell (p := ⟨p, 0, none⟩) hplt id).trans h0
    by_cases hlt : k < s.vs.length
    · have hcell := ((hch.blk h.hc id).cell k).trans (u64s_getD s.vs k hlt)
      have hold : ∃ u, wr.cell? ⟨w.heap.size, k, none⟩ = some u := by
        rw [hb.cell k]
        refine ⟨_, Array.getElem?_eq_getElem ?_⟩
        simp [u64s]; omega
      obtain ⟨u, hu⟩ := hold
      have hfr := hb.free k
      have Hb := hid hb
      clear hb
      go_wp2_with (go_at_call 53; refine (aload _ _ _ _ hcell).mono ?_; rintro e w' ⟨rfl, rfl⟩)
      go_roundw
      case rel => exact ⟨k + 1, by omega, by go_num, by have := Hb.out.put k (.int .u64 (lk s.vs k)); rw [values_fill _ _ hlt] at this; exact this, hch.set (fun h => absurd h (Nat.lt_irrefl _)) _⟩
      case measure => simp [intOf]; omega
    · have : k = s.vs.length := by omega
      subst this
      go_wp2
      go_ret
      refine ⟨w.heap.size, rfl, by simpa using hb, hch, Nat.le_refl _⟩
open Go.RowKit Go.ChangeShapes Go.WideShapes Go.Deep
section
variable {H : Type} {enc : TypeId × Value → H} {P : Program} {w : World} {base : Nat} {spare : Nat → Bool} {held : Bool}
theorem exists_list {α : Type} {R : Nat → α → Prop} : ∀ n, (∀ i, i < n → ∃ x, R i x) → ∃ l : List α, l.length = n ∧ ∀ i x, l[i]? = some x → R i x
  | 0, _ => ⟨[], rfl, by simp⟩
  | n + 1, h => by
    obtain ⟨l, hl, hr⟩ := exists_list n (fun i hi => h i (by omega))
    obtain ⟨x, hx⟩ := h n (by omega)
    refine ⟨l ++ [x], by simp [hl], fun i y hy => ?_⟩
    by_cases hi : i < n
    · rw [List.getElem?_append_left (by omega)] at hy; exact hr i y hy
    · have : i = n := by
        have := (List.getElem?_eq_some_iff.1 hy).1
        simp [hl] at this; omega
      subst this
      rw [List.getElem?_append_right (by omega), hl] at hy
      simp at hy
      subst hy
      exact hx
end
theorem wf_u8 {n : Int} (h : (Lit.int .u8 n).wf = true) : 0 ≤ n ∧ n < 256 := by
  simp [Lit.wf, IntKind.min, IntKind.max, IntKind.signed, IntKind.bits] at h; omega
theorem wf_i64 {n : Int} (h : (Lit.int .i64 n).wf = true) : -9223372036854775808 ≤ n ∧ n < 9223372036854775808 := by
  simp [Lit.wf, IntKind.min, IntKind.max, IntKind.signed, IntKind.bits] at h; omega
instance (s : BS) (t c : Int) : Decidable (s.fine t c) := by unfold BS.fine; infer_instance
section
variable (B p cb : Nat) (lv : Value) (s : BS) (t c : Int) (w : World) (h : Bank B w p cb lv s.vs s.lg) (hlen : s.lg.length < 1000000) (hB : B ≤ w.heap.size)
include h hlen hB
end
def cutAt (f : Int) (n : Nat) : Nat := if f ≤ 0 then 0 else if (n : Int) ≤ f then n else f.toNat
theorem cutAt_le (f : Int) (n : Nat) : cutAt f n ≤ n := by unfold cutAt; split <;> (try split) <;> omega
theorem logCells_drop (l : List Acc) (i : Nat) : (logCells l).drop (i * 6) = logCells (l.drop i) := by
  induction l generalizing i with
  | nil => simp [logCells]
  | cons x l ih =>
    cases i with
    | zero => simp [logCells]
    | succ i =>
      have : (i + 1) * 6 = x.cells.length + i * 6 := by simp [Acc.cells]; omega
      simp only [List.drop_succ_cons]
      rw [← ih i]
      simp only [logCells, List.flatMap_cons]
      rw [this, ← List.drop_drop, List.drop_left]
theorem acc_one (l : List Acc) : ∀ u ∈ logCells l, u.oneCell' = true := by
  intro u hu
  simp only [logCells, List.mem_flatMap] at hu
  obtain ⟨x, _, hu⟩ := hu
  simp [Acc.cells] at hu
  rcases hu with rfl | rfl | rfl | rfl | rfl | rfl <;> rfl
def Accs (w w' : World) (l : List Acc) (e : Ending) : Prop := ∃ b, e = .returned (.slice (some ⟨b, 0, none⟩) l.length l.length) ∧ Blk w' b 89 (logCells l).toArray ∧ Ch (fun _ => False) w w' ∧ w.heap.size ≤ b
theorem run_max0 {P : Program} (tys : Array TypeId) (t : TypeId) (f : Int) (w : World) : (Builtin.max_ tys t #[.int .i64 f, .int .i64 0]).run P w = .ok (.int .i64 (f.toNat : Int)) w := by
  simp only [Builtin.max_, List.foldlM_cons, List.foldlM_nil, Builtin.max2]
  simp
  omega
theorem run_min {P : Program} (tys : Array TypeId) (t : TypeId) (m n : Nat) (w : World) : (Builtin.min_ tys t #[.int .i64 (m : Int), .int .i64 (n : Int)]).run P w = .ok (.int .i64 ((min m n : Nat) : Int)) w := by
  simp only [Builtin.min_, List.foldlM_cons, List.foldlM_nil, Builtin.min2]
  simp
  split <;> omega
theorem cutAt_min (f : Int) (n : Nat) : min f.toNat n = cutAt f n := by
  unfold cutAt
  split
  · omega
  · split <;> omega
theorem run_slice_low {P : Program} (t e : TypeId) (size : Nat) (ht : P.underlying t = some (.slice e)) (hz : (P.info? e).map (·.size) = some size) (A : Option Addr) (n cap i : Nat) (hi : i ≤ n) (hc : n ≤ cap) (w : World) :
    (Instr.sliceAt t (.slice A n cap) (some (.int .i64 (i : Int))) none none).run P w = .ok (.slice (if cap = i then A else A.map (·.add (i * size))) (n - i) (cap - i)) w := by
  cases hq : P.info? e with
  | none => simp [hq] at hz
  | some inf =>
    have hsz : inf.size = size := by simpa [hq] using hz
    have h1 : (0 : Int) ≤ (i : Int) ∧ (i : Int) ≤ (n : Int) := by omega
    simp only [Instr.sliceAt, Sem.run_bind, run_underlying ht, Result.andThen_ok, Instr.slice, Instr.sliceBounds, Instr.sliceBound, asIntOf, Sem.run_pure, h1, and_self, if_true, Int.toNat_natCast, sizeOf, typeInfo, hq]
    simp [program, Sem.run, hq, hsz]
set_option maxRecDepth 100000 in
set_option maxHeartbeats 1000000 in
theorem log_any (B p cb : Nat) (lv : Value) (s : BS) (f : Int) (w : World) (h : Bank B w p cb lv s.vs s.lg) (hlen : s.lg.length < 1000000) :
    Calls Tryz.prog 29 #[.pointer (some ⟨p, 0, none⟩), .int .i64 f] w fun e w' => Accs w w' (s.lg.drop (cutAt f s.lg.length)) e := by
  have hown := h.hl
  obtain ⟨A, cap, rfl, hcap⟩ := own_slice h.hl
  have h1 := h.hp.cell 1
  simp only [List.getElem?_toArray, List.getElem?_cons_zero, List.getElem?_cons_succ] at h1
  obtain ⟨i, hi⟩ : ∃ i, i = cutAt f s.lg.length := ⟨_, rfl⟩
  have hil : i ≤ s.lg.length := by rw [hi]; exact cutAt_le _ _
  rw [← hi]
  have hmin := fun w => run_min (P := Tryz.prog) #[3, 3] 3 f.toNat s.lg.length w
  rw [cutAt_min, ← hi] at hmin
  have hsl := run_slice_low (P := Tryz.prog) 86 89 6 Tryz.underlying86 (by kernel_rfl) A s.lg.length cap i hil hcap
  obtain ⟨A', hA'⟩ : ∃ A', A' = (if cap = i then A else A.map (·.add (i * 6))) := ⟨_, rfl⟩
  rw [← hA'] at hsl
  obtain ⟨m, hm⟩ : ∃ m, m = s.lg.length - i := ⟨_, rfl⟩
  rw [← hm] at hsl
  obtain ⟨c', hc'⟩ : ∃ c', c' = cap - i := ⟨_, rfl⟩
  rw [← hc'] at hsl
  have hmk := fun w => run_make_x (P := Tryz.prog) 86 89 _ 6 48 Tryz.underlying86 Tryz.infoAcc (by decide) m (by omega) w
  have Hi := hid hi
  have HA := hid hA'
  have Hm := hid hm
  have Hmin := hid hmin
  have Hsl := hid hsl
  clear hi hA' hm hc' hmin hsl
  go_enter Tryz.func29, Tryz.ntmps29
  go_wp2_with fail
  refine Mix.wp_region_mix (fun _ => True) (fun i => ([0, 0, 0, 0, 0, 0, 0, 0, 0, 0, 0, 0, 0, 0] : List Nat).getD i 0) [0, 1, 2, 3, 4, 5, 6, 7, 8, 9, 10, 11, 12, 13] (by kernel_rfl) (by kernel_rfl) ?_
  iterate 5 (refine Mix.mix_q (by simp only [List.getElem?_toArray, List.getElem?_cons_zero, List.getElem?_cons_succ]; exact rfl) rfl ?_; go_big_quiet_step (fail); refine wpQuiet_nil ?_)
  refine Mix.mix_v (by simp only [List.getElem?_toArray, List.getElem?_cons_zero, List.getElem?_cons_succ]; exact rfl) rfl (.int .i64 (f.toNat : Int)) rfl (fun W _ => Mix.exec_builtin2 (f := Builtin.max_) rfl (fun _ _ => rfl) rfl rfl (run_max0 _ _ f W)) ?_
  simp only [Act.put, List.setIfInBounds_toArray, List.set_cons_succ, List.set_cons_zero]
  iterate 5 (refine Mix.mix_q (by simp only [List.getElem?_toArray, List.getElem?_cons_zero, List.getElem?_cons_succ]; exact rfl) rfl ?_; go_big_quiet_step (fail); refine wpQuiet_nil ?_)
  refine Mix.mix_v (by simp only [List.getElem?_toArray, List.getElem?_cons_zero, List.getElem?_cons_succ]; exact rfl) rfl (.int .i64 (i : Int)) rfl (fun W _ => Mix.exec_builtin2 (f := Builtin.min_) rfl (fun _ _ => rfl) rfl rfl (Hmin.out W)) ?_
  simp only [Act.put, List.setIfInBounds_toArray, List.set_cons_succ, List.set_cons_zero]
  refine Mix.mix_v (by simp only [List.getElem?_toArray, List.getElem?_cons_zero, List.getElem?_cons_succ]; exact rfl) rfl (.slice A' m c') rfl (fun W _ => Mix.exec_slice_low rfl rfl rfl (Hsl.out W)) ?_
  simp only [Act.put, List.setIfInBounds_toArray, List.set_cons_succ, List.set_cons_zero]
  (refine Mix.mix_q (by simp only [List.getElem?_toArray, List.getElem?_cons_zero, List.getElem?_cons_succ]; exact rfl) rfl ?_; go_big_quiet_step (fail); refine wpQuiet_nil ?_)
  intro nq
  have hsz6 : (Tryz.prog.info? 89).map (·.size) = some 6 := by kernel_rfl
  go_wp2_with (refine wpList_copy_full rfl (.tmp 25) (.tmp 26) 86 86 rfl 89 Tryz.underlying86 6 hsz6 w.heap.size m m A' c' rfl rfl (madeX #[.int .i64 0, .int .i64 0, .int .u8 0, .int .u64 0, .int .u64 0, .bool false] (m * 6)) 89 ?k1 ?k2 (logCells (s.lg.drop i)) ?k3 ?k4 (acc_one _) ?k5)
  case k1 => exact Blk.push rfl
  case k2 => exact madeX_size _ _
  case k3 => rw [logCells_length, List.length_drop, Hm.out]
  case k4 =>
    intro h0
    have hm' := Hm.out
    obtain ⟨g, cap', hv, _, _, _, hg⟩ := own_form hown (by omega)
    injection hv with hA1 _ hc1
    subst hA1
    have hne : ¬ cap = i := by omega
    refine ⟨⟨g, i * 6, none⟩, by rw [HA.out, if_neg hne, Option.map_some, addr_add0], fun j u hu => ?_⟩
    rw [addr_add]
    rw [← logCells_drop, List.getElem?_drop] at hu
    have := hown.cells (g := g) rfl _ u hu
    rw [addr_add0] at this
    exact (World.cell?_alloc_lt w _ _ hg).trans this
  case k5 =>
    intro w' hb hc
    go_wp2_with fail
    go_ret
    refine ⟨w.heap.size, by rw [List.length_drop, ← Hm.out]; rfl, hb, ?_, Nat.le_refl _⟩
    exact (((Ch.refl (fun _ => False) w).alloc _).drewN nq).trans hc (fun i hi h => absurd h (by omega))
def MapAt (w : World) (B : Nat) (es : List (Int × Value)) : Prop := ∃ bs : List Nat, bs.length = es.length ∧ w.heap[B]? = some (.map ((es.zip bs).map fun x => ({ key := .int .u64 x.1.1, val := x.1.2, born := x.2 } : MapEntry)).toArray es.length)
theorem MapAt.ch {fp : Nat → Prop} {w w' : World} {B : Nat} {es : List (Int × Value)} (h : MapAt w B es) (c : Ch fp w w') (hn : ¬ fp B) : MapAt w' B es := by
  obtain ⟨bs, hl, hb⟩ := h
  exact ⟨bs, hl, (c.block B (Array.getElem?_eq_some_iff.1 hb).1 hn).trans hb⟩
def u64At (es : List (Int × Value)) (k : Int) : Option Value := (es.find? fun x => k == x.1).map Prod.snd
theorem findNow_u64 (k : Int) : ∀ (es : List (Int × Value)) (bs : List Nat) (i : Nat), bs.length = es.length →
    ∃ r, Instr.findNow (.int .u64) (.int .u64 k) ((es.zip bs).map fun x => ({ key := .int .u64 x.1.1, val := x.1.2, born := x.2 } : MapEntry)) i = some r ∧ r.map Prod.snd = u64At es k := by
  intro es
  induction es with
  | nil => intro bs i h; exact ⟨none, by simp [Instr.findNow], rfl⟩
  | cons e es ih =>
    intro bs i h
    match bs, h with
    | b :: bs, h =>
      simp at h
      by_cases hk : k = e.1
      · exact ⟨some (i, e.2), by simp [Instr.findNow, Instr.sameNow, hk], by simp [u64At, hk]⟩
      · obtain ⟨r, h1, h2⟩ := ih bs (i + 1) h
        have hk' : (k == e.1) = false := by rw [beq_eq_false_iff_ne]; exact hk
        refine ⟨r, ?_, ?_⟩
        · simp [Instr.findNow, Instr.sameNow, hk']
          exact h1
        · rw [h2]; simp [u64At, List.find?_cons, hk']
section
variable {P : Program} {w : World} {ops : Array Oper} {rest : List Oper} {o : Oper} {a : Act} {Q : Exit → Act → World → Prop}
theorem run_insert_u64 {T kt et : TypeId} (hT : P.underlying T = some (.map kt et)) (hkt : P.underlying kt = some (.int .u64)) {B : Nat} {es : List (Int × Value)} (h : MapAt w B es) (key : Int) (val : Value) (hn : u64At es key = none) :
    ∃ w', (Instr.mapUpdate T (.map (some B)) (.int .u64 key) val).run P w = .ok () w' ∧ MapAt w' B (es ++ [(key, val)]) ∧ Ch (fun b => b = B) w w' := by
  obtain ⟨bs, hl, hb⟩ := h
  obtain ⟨r, h1, h2⟩ := findNow_u64 key es bs 0 hl
  have hr : r = none := by
    cases r with
    | none => rfl
    | some x => rw [hn] at h2; simp at h2
  subst hr
  have hc : (Instr.checkKey false 10000 kt (.int .u64 key)).run P w = .ok () w := MapKept.run_checkKey (k := .int .u64 key) hkt (by simp [MapKept.IsKey]) false 9999
  refine ⟨{ w with heap := w.heap.setIfInBounds B (.map (((es.zip bs).map fun x => ({ key := .int .u64 x.1.1, val := x.1.2, born := x.2 } : MapEntry)).toArray.push { key := .int .u64 key, val, born := es.length }) (es.length + 1)) }, ?_, ?_, ?_⟩
  · simp only [Instr.mapUpdate, Sem.run_bind, run_underlying hT, Result.andThen_ok, MapKept.run_getObj_map hb, hc]
    rw [MapKept.run_findKey hkt h1]
    simp only [Result.andThen_ok]
    exact MapKept.run_setObj_map _ hb
  · refine ⟨bs ++ [es.length], by simp [hl], ?_⟩
    have := (MapKept.heap_set (o' := .map (((es.zip bs).map fun x => ({ key := .int .u64 x.1.1, val := x.1.2, born := x.2 } : MapEntry)).toArray.push { key := .int .u64 key, val, born := es.length }) (es.length + 1)) hb).1
    rw [this]
    simp [List.zip_append hl.symm]
  · refine ⟨rfl, rfl, rfl, by simp, fun k _ hk => (MapKept.heap_set hb).2 k hk⟩
end
end Go.Proofs.YtjcdknhejcbpiaaGreat
