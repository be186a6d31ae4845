/- The queue: its small functions. -/
import Derived.Test.YtpkjjlahmjijnaaQM
namespace Go.Proofs.Ytpkjjlahmjijnaa
open Go.RowKit
set_option linter.unusedVariables false
set_option linter.unusedSimpArgs false
set_option linter.unusedSectionVars false

theorem qpeek_q (B : Nat) {p cb : Nat} {lv : Value} {s : BS} {w : World} (h : Bank B w p cb lv s.vs s.lg) (c : Nat) (hc : c < s.vs.length) (k : Nat) :
    Calls Try.prog 55 #[.pointer (some ⟨p, 0, none⟩), .int .i64 c] (w.drewN k) fun e w'' => e = .returned (.tuple #[.int .u64 (lk s.vs c), .bool true]) ∧ ∃ m, w'' = w.drewN m :=
  Calls.quiet_of_same ((peek_ok B p cb lv s c (w.drewN k) (bank_drew h k) (by omega) (by omega)).mono fun e w' ⟨he, hw⟩ => ⟨by rw [he, Int.toNat_natCast], hw.symm⟩)

section
variable (B p cb qb : Nat) (lv : Value) (s : BS) (f : Qd) (pu : Value) (w : World) (h : QueueM B w p cb qb lv s f pu)
include h
set_option maxHeartbeats 400000 in
theorem qbounds_any : Calls Try.prog 54 #[.pointer (some ⟨qb, 0, none⟩)] w fun e w' => e = .returned (.tuple #[.int .u64 (qH s f), .int .u64 (qT s f)]) ∧ ∃ n, w' = w.drewN n := by
  have g0 : w.cell? ⟨qb, 0, none⟩ = some (.pointer (some ⟨p, 0, none⟩)) := h.fd.cell 0
  have g1 : w.cell? ⟨qb, 1, none⟩ = some (.int .i64 f.head) := h.fd.cell 1
  have g2 : w.cell? ⟨qb, 2, none⟩ = some (.int .i64 f.tail) := h.fd.cell 2
  have H := hid h
  have h1 := h.ok.h
  have h2 := h.ok.t
  clear h
  go_enter Try.func54, Try.ntmps54
  go_wp2_with fail
  refine Mix.wp_region_mix (fun _ => True) (fun i => ([0, 0, 0, 0, 0, 0, 0, 0, 0, 0, 0, 0, 0] : List Nat).getD i 0) [0, 1, 2, 3, 4, 5, 6, 7, 8, 9, 10, 11, 12] (by kernel_rfl) (by kernel_rfl) ?_
  repeat (refine Mix.mix_q (by simp only [List.getElem?_toArray, List.getElem?_cons_zero, List.getElem?_cons_succ]; exact rfl) rfl ?_; go_big_quiet_step ((go_at_call 55; exact qpeek_q B H.out.b f.head h1 _)); refine wpQuiet_nil ?_)
  intro n1
  go_wp2_with fail
  refine Mix.wp_region_mix (fun _ => True) (fun i => ([0, 0, 0, 0, 0, 0, 0, 0, 0, 0, 0, 0, 0] : List Nat).getD i 0) [0, 1, 2, 3, 4, 5, 6, 7, 8, 9, 10, 11, 12] (by kernel_rfl) (by kernel_rfl) ?_
  refine Mix.mix_world fun wB hwB => ?_
  have HB := hid (show QueueM B wB p cb qb lv s f pu by rw [hwB]; exact H.out.drewN n1)
  have g0' : wB.cell? ⟨qb, 0, none⟩ = some (.pointer (some ⟨p, 0, none⟩)) := HB.out.fd.cell 0
  have g2' : wB.cell? ⟨qb, 2, none⟩ = some (.int .i64 f.tail) := HB.out.fd.cell 2
  have HwB := hid hwB
  clear hwB g0 g1 g2
  repeat (refine Mix.mix_q (by simp only [List.getElem?_toArray, List.getElem?_cons_zero, List.getElem?_cons_succ]; exact rfl) rfl ?_; go_big_quiet_step ((go_at_call 55; exact qpeek_q B HB.out.b f.tail h2 _)); refine wpQuiet_nil ?_)
  intro n2
  go_wp2_with fail
  go_ret2
  exact ⟨rfl, n1 + n2, by rw [HwB.out]; exact World.drewN_drewN _ _ _⟩
set_option maxHeartbeats 400000 in
theorem qlen_any (H T : Nat) (hH : qH s f = H) (hT : qT s f = T) (hle : H ≤ T) (hsm : T ≤ 1000000) : Calls Try.prog 17 #[.pointer (some ⟨qb, 0, none⟩)] w fun e w' => e = .returned (.int .i64 ((T - H : Nat) : Int)) ∧ ∃ n, w' = w.drewN n := by
  have HH := hid hH
  have HT := hid hT
  clear hH hT
  go_enter Try.func17, Try.ntmps17
  go_wp2_with fail
  refine (qbounds_any B p cb qb lv s f pu w h).mono ?_
  rintro e w' ⟨rfl, n1, rfl⟩
  rw [HH.out, HT.out]
  have hz : (0 : Int) ≤ (T : Int) - (H : Int) := by omega
  have hs : (T : Int) - (H : Int) ≤ 1000000 := by omega
  have he : (T : Int) - (H : Int) = ((T - H : Nat) : Int) := by omega
  have HE := hid he
  clear he
  go_wp2_with fail
  go_ret
  rw [HE.out]
  exact ⟨rfl, _, rfl⟩
theorem qlen_q (H T : Nat) (hH : qH s f = H) (hT : qT s f = T) (hle : H ≤ T) (hsm : T ≤ 1000000) (k : Nat) : Calls Try.prog 17 #[.pointer (some ⟨qb, 0, none⟩)] (w.drewN k) fun e w'' => e = .returned (.int .i64 ((T - H : Nat) : Int)) ∧ ∃ n, w'' = w.drewN n :=
  Calls.quiet_of (qlen_any B p cb qb lv s f pu (w.drewN k) (h.drewN k) H T hH hT hle hsm)
end

/-- A slice of words that the call made. -/
def FreshRow (w w' : World) (l : List Int) (e : Ending) : Prop := ∃ v, e = .returned v ∧ w'.ownsRow w.heap.size 22 1 v l.length (l.map (Value.int .u64)) ∧ Ch (fun _ => False) w w'
theorem take_range (m j : Nat) (g : Nat → Int) (h : j < m) : (((List.range m).map g).take (j + 1)).map (Value.int .u64) = (((List.range m).map g).take j).map (Value.int .u64) ++ [.int .u64 (g j)] := by
  rw [List.take_succ_eq_append_getElem (by simpa using h)]
  simp

set_option maxRecDepth 100000 in
set_option maxHeartbeats 1000000 in
theorem qlist_any (B p cb qb : Nat) (lv : Value) (s : BS) (f : Qd) (pu : Value) (w : World) (h : QueueM B w p cb qb lv s f pu) (H T : Nat) (hH : qH s f = H) (hT : qT s f = T) (hle : H ≤ T) (hsm : T ≤ 1000000) :
    Calls Try.prog 18 #[.pointer (some ⟨qb, 0, none⟩)] w fun e w' => FreshRow w w' (qlist s f) e := by
  obtain ⟨i0, hi, hz0, hz1, hz2⟩ := info_parts Try.infoU64
  have hfl : qlist s f = (List.range (T - H)).map fun (j : Nat) => lk s.vs (f.ent ((H : Int) + (j : Int))) := by
    unfold qlist
    rw [hH, hT, show ((T : Int) - (H : Int)).toNat = T - H by omega]
  obtain ⟨g, hg⟩ : ∃ g : Nat → Int, g = fun (j : Nat) => lk s.vs (f.ent ((H : Int) + (j : Int))) := ⟨_, rfl⟩
  rw [← hg] at hfl
  have hgj : ∀ j : Nat, g j = lk s.vs (f.ent ((H : Int) + (j : Int))) := fun j => by rw [hg]
  rw [hfl]
  have Hg := hid hgj
  have HH := hid hH
  have HT := hid hT
  clear hfl hg hgj hH hT
  go_enter Try.func18, Try.ntmps18
  go_wp2_with fail
  refine (qbounds_any B p cb qb lv s f pu w h).mono ?_
  rintro e w0 ⟨rfl, n0, rfl⟩
  rw [HH.out, HT.out]
  go_wp2_with fail
  go_loopw [3, 6] (fun v i wr => ∃ j : Nat, j ≤ T - H ∧ i = .int .u64 ((H : Int) + (j : Int)) ∧ wr.ownsRow w.heap.size 22 1 v j ((((List.range (T - H)).map g).take j).map (Value.int .u64)) ∧ Ch (fun _ => False) w wr) (fun _ i _ => T - (intOf i).toNat)
  case atStart => exact ⟨0, by omega, by simp, World.ownsRow_nil _ _ _ _, (Ch.refl _ _).drewN n0⟩
  case round =>
    obtain ⟨j, hj, rfl, hown, hch⟩ := hrel
    obtain ⟨A0, cap0, hv0, _⟩ := own_slice hown
    subst hv0
    have hF := h.keep hch
    by_cases hlt : j < T - H
    · have hne : decide (((H : Int) + (j : Int)) < (T : Int)) = true := decide_eq_true (by omega)
      have f0 : wr.cell? ⟨qb, 0, none⟩ = some (.pointer (some ⟨p, 0, none⟩)) := hF.fd.cell 0
      have hel := (ent_lt hF.ok ((H : Int) + (j : Int))).2
      have HF := hid hF
      clear hF
      go_wp2_with fail
      refine Mix.wp_region_mix (fun _ => True) (fun i => ([0, 0, 0, 0, 0, 0, 0, 0, 0, 0, 0, 0, 0] : List Nat).getD i 0) [0, 1, 2, 3, 4, 5, 6, 7, 8, 9, 10, 11, 12] (by kernel_rfl) (by kernel_rfl) ?_
      repeat (first | (refine Mix.mix_q (by simp only [List.getElem?_toArray, List.getElem?_cons_zero, List.getElem?_cons_succ]; exact rfl) rfl ?_; go_big_quiet_step ((first | (go_at_call 56; exact qent_q B p cb qb lv s f pu _ wr HF.out ⟨by omega, by omega⟩ _) | (go_at_call 55; exact qpeek_q B HF.out.b _ hel _))); refine wpQuiet_nil ?_))
      intro nq
      rw [← Hg.out j]
      have hch1 : Ch (fun _ => False) w (wr.drewN nq) := hch.drewN nq
      have hown1 : (wr.drewN nq).ownsRow w.heap.size 22 1 (.slice A0 j cap0) j ((((List.range (T - H)).map g).take j).map (Value.int .u64)) := ((Ch.refl (fun _ => False) wr).drewN nq).own hown (fun _ _ => id)
      clear hne hown f0
      go_wp2_with (at_builtin; refine wpList_app _ rfl (.tmp 34) (.tmp 36) 40 rfl w.heap.size 22 i0 _ 1 8 Try.underlying40 hi hz0 hz1 hz2 rfl (by decide) _ _ _ rfl (hown1.alloc _) ⟨wr.heap.size, 0, none⟩ 1 1 [.int .u64 (g j)] rfl rfl ?c1 ?c2 (by decide) ?c3 ?c4 ?c5 ?c6)
      case c1 => intro j' u hu; rw [addr_add0]; exact ((Blk.new (wr.drewN nq) 22 #[.int .u64 (g j)]).cell j').trans (by simpa using hu)
      case c2 => intro u hu; simp at hu; subst hu; rfl
      case c3 => unfold maxLen; omega
      case c4 => omega
      case c5 => exact Nat.le_trans hch.size (by simp)
      case c6 =>
        intro v' w' hown' hgrow hfresh
        have hch' : Ch (fun _ => False) w w' := (hch1.alloc _).grown hgrow (fun g hg hlt => (Nat.lt_irrefl _ (Nat.lt_of_lt_of_le hlt (hown1.lt g hg).1)).elim)
        go_wp2_with fail
        go_roundw
        case rel => exact ⟨j + 1, by omega, by push_cast; rw [Int.add_assoc], by rw [take_range _ _ _ hlt, List.map_take, List.map_map]; exact hown', hch'⟩
        case measure => simp [intOf]; omega
    · obtain rfl : j = T - H := by omega
      have hne : decide (((H : Int) + ((T - H : Nat) : Int)) < (T : Int)) = false := decide_eq_false (by omega)
      go_wp2_with fail
      go_ret
      refine ⟨_, rfl, ?_, hch⟩
      rw [List.take_of_length_le (by simp)] at hown
      simpa using hown

/-- The errors of Push and of Pull. -/
def qpuerr (t v : Int) : Int := if t < 0 ∨ 16 ≤ t ∨ v = 0 then 2 else 0

section
variable (B p cb qb : Nat) (lv : Value) (s : BS) (f : Qd) (pu : Value) (w : World) (h : QueueM B w p cb qb lv s f pu)
set_option maxHeartbeats 400000 in
theorem qpush_ok (qb : Nat) (w : World) (t v : Int) (ht : 0 ≤ t ∧ t < 16) (hv : v ≠ 0) : Calls Try.prog 20 #[.pointer (some ⟨qb, 0, none⟩), .int .i64 t, .int .u64 v] w fun e w' => ∃ g, e = .returned (.tuple #[.pointer (some ⟨g, 0, none⟩), .int .i64 0]) ∧ Blk w' g 105 (puCells qb ⟨t, v, 0, 0, 4, 0⟩) ∧ Ch (fun _ => False) w w' ∧ w.heap.size ≤ g := by
  have d1 : decide (t < 0) = false := decide_eq_false (by omega)
  have d2 : decide (16 ≤ t) = false := decide_eq_false (by omega)
  have d3 : (v == 0) = false := by rw [beq_eq_false_iff_ne]; exact hv
  clear hv
  go_enter Try.func20, Try.ntmps20
  go_wp2_with fail
  go_ret2
  exact ⟨_, rfl, Blk.new w _ _, (Ch.refl _ w).alloc _, Nat.le_refl _⟩
set_option maxHeartbeats 400000 in
theorem qpush_bad (qb : Nat) (w : World) (t v : Int) (hb : t < 0 ∨ 16 ≤ t ∨ v = 0) : Calls Try.prog 20 #[.pointer (some ⟨qb, 0, none⟩), .int .i64 t, .int .u64 v] w fun e w' => e = .returned (.tuple #[.pointer none, .int .i64 2]) ∧ w = w' := by
  by_cases h1 : t < 0
  · have d1 : decide (t < 0) = true := decide_eq_true h1
    go_enter Try.func20, Try.ntmps20
    go_wp2_with fail
    go_ret2
    exact ⟨rfl, rfl⟩
  have d1 : decide (t < 0) = false := decide_eq_false h1
  by_cases h2 : 16 ≤ t
  · have d2 : decide (16 ≤ t) = true := decide_eq_true h2
    go_enter Try.func20, Try.ntmps20
    go_wp2_with fail
    go_ret2
    exact ⟨rfl, rfl⟩
  have d2 : decide (16 ≤ t) = false := decide_eq_false h2
  obtain rfl : v = 0 := by omega
  clear hb
  go_enter Try.func20, Try.ntmps20
  go_wp2_with fail
  go_ret2
  exact ⟨rfl, rfl⟩

/-- No pull is in progress. -/
def Rests (w : World) (qb : Nat) (pu : Value) : Prop := pu = .pointer none ∨ ∃ g q, pu = .pointer (some ⟨g, 0, none⟩) ∧ Blk w g 109 (plCells qb q) ∧ q.fin = true
/-- A pull was begun: its block is new, the queue's own block alone has changed. -/
def PlBegun (B p cb qb : Nat) (lv : Value) (s : BS) (f : Qd) (q : Pl) (w : World) (e : Ending) (w' : World) : Prop :=
  ∃ g, e = .returned (.tuple #[.pointer (some ⟨g, 0, none⟩), .int .i64 0]) ∧ QueueM B w' p cb qb lv s f (.pointer (some ⟨g, 0, none⟩)) ∧ Blk w' g 109 (plCells qb q) ∧ Ch (fun k => k = qb) w w' ∧ w.heap.size ≤ g
include h
set_option maxHeartbeats 1000000 in
theorem qpull_ok (t : Int) (ht : 0 ≤ t ∧ t < 16) (hr : Rests w qb pu) : Calls Try.prog 29 #[.pointer (some ⟨qb, 0, none⟩), .int .i64 t] w (PlBegun B p cb qb lv s f ⟨t, qH s f, 0, 19, 0, false⟩ w) := by
  have d1 : decide (t < 0) = false := decide_eq_false (by omega)
  have d2 : decide (16 ≤ t) = false := decide_eq_false (by omega)
  have hh := h.ok.h
  have fq := h.fd.free 5
  have b0 : w.cell? ⟨qb, 0, none⟩ = some (.pointer (some ⟨p, 0, none⟩)) := h.fd.cell 0
  have b1 : w.cell? ⟨qb, 1, none⟩ = some (.int .i64 f.head) := h.fd.cell 1
  have b5 : w.cell? ⟨qb, 5, none⟩ = some pu := h.fd.cell 5
  have hql := h.fd.lt
  have Hh := hid h
  rcases hr with rfl | ⟨g, q, rfl, hg, hf⟩
  · clear h
    go_enter Try.func29, Try.ntmps29
    go_wp2_with fail
    refine Mix.wp_region_mix (fun _ => True) (fun i => ([0, 0, 0, 0, 0, 0, 0, 0, 0, 0, 0, 0, 0, 0] : List Nat).getD i 0) [0, 1, 2, 3, 4, 5, 6, 7, 8, 9, 10, 11, 12, 13] (by kernel_rfl) (by kernel_rfl) ?_
    repeat (refine Mix.mix_q (by simp only [List.getElem?_toArray, List.getElem?_cons_zero, List.getElem?_cons_succ]; exact rfl) rfl ?_; go_big_quiet_step ((go_at_call 55; exact qpeek_q B Hh.out.b f.head hh _)); refine wpQuiet_nil ?_)
    intro n1
    have fq2 : ∀ o, ((w.drewN n1).alloc o).frozen? ⟨qb, 5, none⟩ = false := fun o => ((Hh.out.fd.drewN n1).alloc o).free 5
    have bq2 : ∀ o, ((w.drewN n1).alloc o).cell? ⟨qb, 5, none⟩ = w.cell? ⟨qb, 5, none⟩ := fun o => (((Hh.out.fd.drewN n1).alloc o).cell 5).trans (Hh.out.fd.cell 5).symm
    go_wp2_with fail
    go_ret2
    have n0 := not_fp Hh.out.b Hh.out.fd (by decide) (by decide) (by decide)
    have c2 : Ch (fun k => k = qb) w (((w.drewN n1).alloc (.cells (plCells qb ⟨t, qH s f, 0, 19, 0, false⟩) 109)).setCell ⟨qb, 5, none⟩ (.pointer (some ⟨w.heap.size, 0, none⟩))) := ((((Ch.refl (fun k => k = qb) w).drewN n1).alloc _).set (fun _ => rfl) _)
    have hg := Blk.new (w.drewN n1) 109 (plCells qb ⟨t, qH s f, 0, 19, 0, false⟩)
    refine ⟨_, rfl, ⟨Hh.out.b.ch c2 (fun e => n0 (.inl e.symm)) (fun e => n0 (.inr (.inl e.symm))) (fun k hk e => n0 (.inr (.inr (by rw [← e]; exact hk)))), ?_, Hh.out.ok, Hh.out.bf⟩, ?_, c2, by simp⟩
    · exact ((Hh.out.fd.drewN n1).alloc _).put 5 _
    · exact hg.far (p := ⟨qb, 5, none⟩) (by simp; omega) _
  · have g6 : w.cell? ⟨g, 6, none⟩ = some (.bool true) := (hg.cell 6).trans (by show some (Value.bool q.fin) = _; rw [hf])
    clear h hf hg
    go_enter Try.func29, Try.ntmps29
    go_wp2_with fail
    refine Mix.wp_region_mix (fun _ => True) (fun i => ([0, 0, 0, 0, 0, 0, 0, 0, 0, 0, 0, 0, 0, 0] : List Nat).getD i 0) [0, 1, 2, 3, 4, 5, 6, 7, 8, 9, 10, 11, 12, 13] (by kernel_rfl) (by kernel_rfl) ?_
    repeat (refine Mix.mix_q (by simp only [List.getElem?_toArray, List.getElem?_cons_zero, List.getElem?_cons_succ]; exact rfl) rfl ?_; go_big_quiet_step ((go_at_call 55; exact qpeek_q B Hh.out.b f.head hh _)); refine wpQuiet_nil ?_)
    intro n1
    have fq2 : ∀ o, ((w.drewN n1).alloc o).frozen? ⟨qb, 5, none⟩ = false := fun o => ((Hh.out.fd.drewN n1).alloc o).free 5
    have bq2 : ∀ o, ((w.drewN n1).alloc o).cell? ⟨qb, 5, none⟩ = w.cell? ⟨qb, 5, none⟩ := fun o => (((Hh.out.fd.drewN n1).alloc o).cell 5).trans (Hh.out.fd.cell 5).symm
    go_wp2_with fail
    go_ret2
    have n0 := not_fp Hh.out.b Hh.out.fd (by decide) (by decide) (by decide)
    have c2 : Ch (fun k => k = qb) w (((w.drewN n1).alloc (.cells (plCells qb ⟨t, qH s f, 0, 19, 0, false⟩) 109)).setCell ⟨qb, 5, none⟩ (.pointer (some ⟨w.heap.size, 0, none⟩))) := ((((Ch.refl (fun k => k = qb) w).drewN n1).alloc _).set (fun _ => rfl) _)
    have hg := Blk.new (w.drewN n1) 109 (plCells qb ⟨t, qH s f, 0, 19, 0, false⟩)
    refine ⟨_, rfl, ⟨Hh.out.b.ch c2 (fun e => n0 (.inl e.symm)) (fun e => n0 (.inr (.inl e.symm))) (fun k hk e => n0 (.inr (.inr (by rw [← e]; exact hk)))), ?_, Hh.out.ok, Hh.out.bf⟩, ?_, c2, by simp⟩
    · exact ((Hh.out.fd.drewN n1).alloc _).put 5 _
    · exact hg.far (p := ⟨qb, 5, none⟩) (by simp; omega) _
set_option maxHeartbeats 1000000 in
theorem qpull_bad (t : Int) (hb : t < 0 ∨ 16 ≤ t) : Calls Try.prog 29 #[.pointer (some ⟨qb, 0, none⟩), .int .i64 t] w fun e w' => e = .returned (.tuple #[.pointer none, .int .i64 2]) ∧ w = w' := by
  by_cases h1 : t < 0
  · have d1 : decide (t < 0) = true := decide_eq_true h1
    go_enter Try.func29, Try.ntmps29
    go_wp2_with fail
    go_ret2
    exact ⟨rfl, rfl⟩
  have d1 : decide (t < 0) = false := decide_eq_false h1
  have d2 : decide (16 ≤ t) = true := decide_eq_true (by omega)
  go_enter Try.func29, Try.ntmps29
  go_wp2_with fail
  go_ret2
  exact ⟨rfl, rfl⟩
set_option maxHeartbeats 1000000 in
theorem qpull_busy (t : Int) (ht : 0 ≤ t ∧ t < 16) (g : Nat) (q : Pl) (hp : pu = .pointer (some ⟨g, 0, none⟩)) (hg : Blk w g 109 (plCells qb q)) (hf : q.fin = false) : Calls Try.prog 29 #[.pointer (some ⟨qb, 0, none⟩), .int .i64 t] w fun e w' => e = .returned (.tuple #[.pointer none, .int .i64 8]) ∧ w = w' := by
  have d1 : decide (t < 0) = false := decide_eq_false (by omega)
  have d2 : decide (16 ≤ t) = false := decide_eq_false (by omega)
  subst hp
  have b5 : w.cell? ⟨qb, 5, none⟩ = some (.pointer (some ⟨g, 0, none⟩)) := h.fd.cell 5
  have g6 : w.cell? ⟨g, 6, none⟩ = some (.bool false) := (hg.cell 6).trans (by show some (Value.bool q.fin) = _; rw [hf])
  clear h hf hg
  go_enter Try.func29, Try.ntmps29
  go_wp2_with fail
  go_ret2
  exact ⟨rfl, rfl⟩
end

section
variable (qb g : Nat) (w : World)
set_option maxHeartbeats 400000 in
theorem unext_any (q : Pu) (hq : Blk w g 105 (puCells qb q)) : Calls Try.prog 24 #[.pointer (some ⟨g, 0, none⟩)] w fun e w' => e = .returned (.int .u8 q.ph) ∧ w = w' := by
  have a5 : w.cell? ⟨g, 5, none⟩ = some (.int .u8 q.ph) := hq.cell 5
  go_enter Try.func24, Try.ntmps24
  go_wp2_with fail
  go_ret
  exact ⟨rfl, rfl⟩
set_option maxHeartbeats 400000 in
theorem ures_any (q : Pu) (hq : Blk w g 105 (puCells qb q)) : Calls Try.prog 25 #[.pointer (some ⟨g, 0, none⟩)] w fun e w' => e = .returned (.int .i64 (if q.ph = 0 then q.er else 8)) ∧ w = w' := by
  have a5 : w.cell? ⟨g, 5, none⟩ = some (.int .u8 q.ph) := hq.cell 5
  have a6 : w.cell? ⟨g, 6, none⟩ = some (.int .i64 q.er) := hq.cell 6
  by_cases hc : q.ph = 0
  · rw [if_pos hc]
    rw [hc] at a5
    clear hc
    go_enter Try.func25, Try.ntmps25
    go_wp2_with fail
    go_ret
    exact ⟨rfl, rfl⟩
  · rw [if_neg hc]
    have hb : (q.ph != 0) = true := by rw [bne_iff_ne]; exact hc
    clear hc
    go_enter Try.func25, Try.ntmps25
    go_wp2_with fail
    go_ret
    exact ⟨rfl, rfl⟩
set_option maxHeartbeats 400000 in
theorem lnext_any (q : Pl) (hq : Blk w g 109 (plCells qb q)) : Calls Try.prog 32 #[.pointer (some ⟨g, 0, none⟩)] w fun e w' => e = .returned (.int .u8 q.ph) ∧ w = w' := by
  have a4 : w.cell? ⟨g, 4, none⟩ = some (.int .u8 q.ph) := hq.cell 4
  go_enter Try.func32, Try.ntmps32
  go_wp2_with fail
  go_ret
  exact ⟨rfl, rfl⟩
def plRes (q : Pl) : Int × Int := if q.fin = true then (q.got, q.er) else (0, 8)
set_option maxHeartbeats 400000 in
theorem lres_any (q : Pl) (hq : Blk w g 109 (plCells qb q)) : Calls Try.prog 31 #[.pointer (some ⟨g, 0, none⟩)] w fun e w' => e = .returned (.tuple #[.int .u64 (plRes q).1, .int .i64 (plRes q).2]) ∧ ∃ n, w' = w.drewN n := by
  have a3 : w.cell? ⟨g, 3, none⟩ = some (.int .u64 q.got) := hq.cell 3
  have a5 : w.cell? ⟨g, 5, none⟩ = some (.int .i64 q.er) := hq.cell 5
  have a6 : w.cell? ⟨g, 6, none⟩ = some (.bool q.fin) := hq.cell 6
  unfold plRes
  by_cases hc : q.fin = true
  · rw [if_pos hc]
    rw [hc] at a6
    clear hc
    go_enter Try.func31, Try.ntmps31
    go_wp2_with fail
    go_quiet (fail)
    go_wp2_with fail
    go_ret2
    exact ⟨rfl, _, rfl⟩
  · rw [if_neg hc]
    rw [Bool.not_eq_true] at hc
    rw [hc] at a6
    clear hc
    go_enter Try.func31, Try.ntmps31
    go_wp2_with fail
    go_ret2
    exact ⟨rfl, 0, rfl⟩
end
end Go.Proofs.Ytpkjjlahmjijnaa
