/- The feed: its memory, and its small functions. -/
import Derived.Test.YtonjbofdmmnpdaaBothA
import Derived.Test.YtonjbofdmmnpdaaHeap
import Derived.Test.YtonjbofdmmnpdaaFeedPlain
namespace Go.Proofs.Ytonjbofdmmnpdaa
open Go.RowKit
set_option linter.unusedVariables false
set_option linter.unusedSimpArgs false

def fdCells (p : Nat) (s : BS) (F : Fd) : Array Value := #[.pointer (some ⟨p, 0, none⟩), .int .i64 F.first, .int .i64 F.n, .int .u64 (cHead s F), .int .u64 (cTail s F), .int .u64 F.last, .bool F.pushing, .bool F.receiving]
def pdCells (f : Nat) (q : Pd) : Array Value := #[.pointer (some ⟨f, 0, none⟩), .int .i64 q.t, .int .u8 q.ph, .int .u64 q.p, .int .u64 q.l]
def rdCells (f : Nat) (r : Rd) : Array Value := #[.pointer (some ⟨f, 0, none⟩), .int .i64 r.t, .int .u8 r.ph, .int .u64 r.after, .int .u64 r.l, .int .u64 r.value, .bool r.lagged, .int .i64 r.err]

/-- The cells of a feed exist. -/
structure FOk (s : BS) (F : Fd) : Prop where
  room : F.first + 4 + F.n ≤ s.vs.length
  n1 : 1 ≤ F.n
  n2 : F.n ≤ 64

/-- A feed in memory: its bank and its block. -/
structure FeedM (B : Nat) (w : World) (p cb fb : Nat) (lv : Value) (s : BS) (F : Fd) : Prop where
  b : Bank B w p cb lv s.vs s.lg
  fd : Blk w fb 98 (fdCells p s F)
  ok : FOk s F
  bf : B ≤ fb

theorem FeedM.hn {B : Nat} {w : World} {p cb f : Nat} {lv : Value} {s : BS} {F : Fd} (h : FeedM B w p cb f lv s F) : F.first + 4 + F.n ≤ 4096 := Nat.le_trans h.ok.room h.b.hn

theorem FeedM.ch {B : Nat} {w w' : World} {p cb f : Nat} {lv : Value} {s : BS} {F : Fd} {fp : Nat → Prop} (h : FeedM B w p cb f lv s F) (c : Ch fp w w') (h1 : ¬ fp p) (h2 : ¬ fp cb) (h3 : ∀ k, lv.ownBlock = some k → ¬ fp k) (h4 : ¬ fp f) : FeedM B w' p cb f lv s F :=
  ⟨h.b.ch c h1 h2 h3, c.blk h.fd h4, h.ok, h.bf⟩
theorem FeedM.keep {B : Nat} {w w' : World} {p cb f : Nat} {lv : Value} {s : BS} {F : Fd} (h : FeedM B w p cb f lv s F) (c : Ch (fun _ => False) w w') : FeedM B w' p cb f lv s F := h.ch c id id (fun _ _ => id) id

theorem FeedM.c0 {B : Nat} {w : World} {p cb fb : Nat} {lv : Value} {s : BS} {F : Fd} (h : FeedM B w p cb fb lv s F) : w.cell? ⟨fb, 0, none⟩ = some (.pointer (some ⟨p, 0, none⟩)) := h.fd.cell 0
theorem FeedM.c1 {B : Nat} {w : World} {p cb fb : Nat} {lv : Value} {s : BS} {F : Fd} (h : FeedM B w p cb fb lv s F) : w.cell? ⟨fb, 1, none⟩ = some (.int .i64 F.first) := h.fd.cell 1
theorem FeedM.c2 {B : Nat} {w : World} {p cb fb : Nat} {lv : Value} {s : BS} {F : Fd} (h : FeedM B w p cb fb lv s F) : w.cell? ⟨fb, 2, none⟩ = some (.int .i64 F.n) := h.fd.cell 2
theorem FeedM.c3 {B : Nat} {w : World} {p cb fb : Nat} {lv : Value} {s : BS} {F : Fd} (h : FeedM B w p cb fb lv s F) : w.cell? ⟨fb, 3, none⟩ = some (.int .u64 (cHead s F)) := h.fd.cell 3
theorem FeedM.c4 {B : Nat} {w : World} {p cb fb : Nat} {lv : Value} {s : BS} {F : Fd} (h : FeedM B w p cb fb lv s F) : w.cell? ⟨fb, 4, none⟩ = some (.int .u64 (cTail s F)) := h.fd.cell 4
theorem FeedM.c5 {B : Nat} {w : World} {p cb fb : Nat} {lv : Value} {s : BS} {F : Fd} (h : FeedM B w p cb fb lv s F) : w.cell? ⟨fb, 5, none⟩ = some (.int .u64 F.last) := h.fd.cell 5
theorem FeedM.c6 {B : Nat} {w : World} {p cb fb : Nat} {lv : Value} {s : BS} {F : Fd} (h : FeedM B w p cb fb lv s F) : w.cell? ⟨fb, 6, none⟩ = some (.bool F.pushing) := h.fd.cell 6
theorem FeedM.c7 {B : Nat} {w : World} {p cb fb : Nat} {lv : Value} {s : BS} {F : Fd} (h : FeedM B w p cb fb lv s F) : w.cell? ⟨fb, 7, none⟩ = some (.bool F.receiving) := h.fd.cell 7
theorem pd_c0 {w : World} {g f : Nat} {t : TypeId} {q : Pd} (h : Blk w g t (pdCells f q)) : w.cell? ⟨g, 0, none⟩ = some (.pointer (some ⟨f, 0, none⟩)) := h.cell 0
theorem pd_c1 {w : World} {g f : Nat} {t : TypeId} {q : Pd} (h : Blk w g t (pdCells f q)) : w.cell? ⟨g, 1, none⟩ = some (.int .i64 q.t) := h.cell 1
theorem pd_c2 {w : World} {g f : Nat} {t : TypeId} {q : Pd} (h : Blk w g t (pdCells f q)) : w.cell? ⟨g, 2, none⟩ = some (.int .u8 q.ph) := h.cell 2
theorem pd_c3 {w : World} {g f : Nat} {t : TypeId} {q : Pd} (h : Blk w g t (pdCells f q)) : w.cell? ⟨g, 3, none⟩ = some (.int .u64 q.p) := h.cell 3
theorem pd_c4 {w : World} {g f : Nat} {t : TypeId} {q : Pd} (h : Blk w g t (pdCells f q)) : w.cell? ⟨g, 4, none⟩ = some (.int .u64 q.l) := h.cell 4
theorem rd_c0 {w : World} {g f : Nat} {t : TypeId} {r : Rd} (h : Blk w g t (rdCells f r)) : w.cell? ⟨g, 0, none⟩ = some (.pointer (some ⟨f, 0, none⟩)) := h.cell 0
theorem rd_c1 {w : World} {g f : Nat} {t : TypeId} {r : Rd} (h : Blk w g t (rdCells f r)) : w.cell? ⟨g, 1, none⟩ = some (.int .i64 r.t) := h.cell 1
theorem rd_c2 {w : World} {g f : Nat} {t : TypeId} {r : Rd} (h : Blk w g t (rdCells f r)) : w.cell? ⟨g, 2, none⟩ = some (.int .u8 r.ph) := h.cell 2
theorem rd_c3 {w : World} {g f : Nat} {t : TypeId} {r : Rd} (h : Blk w g t (rdCells f r)) : w.cell? ⟨g, 3, none⟩ = some (.int .u64 r.after) := h.cell 3
theorem rd_c4 {w : World} {g f : Nat} {t : TypeId} {r : Rd} (h : Blk w g t (rdCells f r)) : w.cell? ⟨g, 4, none⟩ = some (.int .u64 r.l) := h.cell 4
theorem rd_c5 {w : World} {g f : Nat} {t : TypeId} {r : Rd} (h : Blk w g t (rdCells f r)) : w.cell? ⟨g, 5, none⟩ = some (.int .u64 r.value) := h.cell 5
theorem rd_c6 {w : World} {g f : Nat} {t : TypeId} {r : Rd} (h : Blk w g t (rdCells f r)) : w.cell? ⟨g, 6, none⟩ = some (.bool r.lagged) := h.cell 6
theorem rd_c7 {w : World} {g f : Nat} {t : TypeId} {r : Rd} (h : Blk w g t (rdCells f r)) : w.cell? ⟨g, 7, none⟩ = some (.int .i64 r.err) := h.cell 7

theorem ret_int {k : IntKind} {a b : Int} (h : a = b) : Ending.returned (.int k a) = .returned (.int k b) := by rw [h]
/-- A slice of words that the call made. -/
def FreshRow (w w' : World) (l : List Int) (e : Ending) : Prop := ∃ v, e = .returned v ∧ w'.ownsRow w.heap.size 35 1 v l.length (l.map (Value.int .u64)) ∧ Ch (fun _ => False) w w'

section
variable (B p cb fb : Nat) (lv : Value) (s : BS) (F : Fd) (w : World) (h : FeedM B w p cb fb lv s F)
include h

set_option maxHeartbeats 400000 in
theorem fpeek_any (c : Nat) (hc : c < 4) : Calls Try.prog 61 #[.pointer (some ⟨fb, 0, none⟩), .int .i64 c] w fun e w' => e = .returned (.int .u64 (lk s.vs (F.first + c))) ∧ w = w' := by
  have f0 := h.c0
  have f1 := h.c1
  have hn := h.hn
  have hr := h.ok.room
  go_enter Try.func61, Try.ntmps61
  go_wp2_with fail
  refine (peek_ok B p cb lv s (F.first + c : Nat) w h.b (by omega) (by omega)).mono ?_
  rintro e w' ⟨rfl, rfl⟩
  rw [Int.toNat_natCast]
  go_wp2_with fail
  go_ret
  exact ⟨rfl, rfl⟩

theorem fpeek0 : Calls Try.prog 61 #[.pointer (some ⟨fb, 0, none⟩), .int .i64 0] w fun e w' => e = .returned (.int .u64 (cAct s F)) ∧ w = w' := fpeek_any B p cb fb lv s F w h 0 (by decide)
theorem fpeek1 : Calls Try.prog 61 #[.pointer (some ⟨fb, 0, none⟩), .int .i64 1] w fun e w' => e = .returned (.int .u64 (cLag s F)) ∧ w = w' := fpeek_any B p cb fb lv s F w h 1 (by decide)
theorem fpeek2 : Calls Try.prog 61 #[.pointer (some ⟨fb, 0, none⟩), .int .i64 2] w fun e w' => e = .returned (.int .u64 (cHead s F)) ∧ w = w' := fpeek_any B p cb fb lv s F w h 2 (by decide)
theorem fpeek3 : Calls Try.prog 61 #[.pointer (some ⟨fb, 0, none⟩), .int .i64 3] w fun e w' => e = .returned (.int .u64 (cTail s F)) ∧ w = w' := fpeek_any B p cb fb lv s F w h 3 (by decide)

set_option maxHeartbeats 400000 in
theorem fent_any (i : Int) (hi : 0 ≤ i) : Calls Try.prog 63 #[.pointer (some ⟨fb, 0, none⟩), .int .u64 i] w fun e w' => e = .returned (.int .i64 (F.ent i : Nat)) ∧ ∃ n, w' = w.drewN n := by
  have f1 := h.c1
  have f2 := h.c2
  have hn := h.hn
  have hn1 := h.ok.n1
  have hm1 : 0 ≤ i % (F.n : Int) := Int.emod_nonneg _ (by omega)
  have hm2 : i % (F.n : Int) < F.n := Int.emod_lt_of_pos _ (by omega)
  go_enter Try.func63, Try.ntmps63
  go_wp2_with fail
  go_quiet (fail)
  go_wp2_with fail
  go_ret
  exact ⟨ret_int (by unfold Fd.ent; omega), _, rfl⟩
set_option maxHeartbeats 400000 in
theorem fact_any : Calls Try.prog 27 #[.pointer (some ⟨fb, 0, none⟩)] w fun e w' => e = .returned (.bool (cAct s F != 0)) ∧ w = w' := by
  go_enter Try.func27, Try.ntmps27
  go_wp2_with fail
  refine (fpeek0 B p cb fb lv s F w h).mono ?_
  rintro e w' ⟨rfl, rfl⟩
  go_wp2_with fail
  go_ret
  exact ⟨rfl, rfl⟩
set_option maxHeartbeats 400000 in
theorem flag_any : Calls Try.prog 29 #[.pointer (some ⟨fb, 0, none⟩)] w fun e w' => e = .returned (.int .u64 (cLag s F)) ∧ w = w' := by
  go_enter Try.func29, Try.ntmps29
  go_wp2_with fail
  refine (fpeek1 B p cb fb lv s F w h).mono ?_
  rintro e w' ⟨rfl, rfl⟩
  go_wp2_with fail
  go_ret
  exact ⟨rfl, rfl⟩
end

theorem fent_q {B p cb fb : Nat} {lv : Value} {s : BS} {F : Fd} {w : World} (h : FeedM B w p cb fb lv s F) (i : Int) (hi : 0 ≤ i) (k : Nat) :
    Calls Try.prog 63 #[.pointer (some ⟨fb, 0, none⟩), .int .u64 i] (w.drewN k) fun e w'' => e = .returned (.int .i64 (F.ent i : Nat)) ∧ ∃ m, w'' = w.drewN m :=
  Calls.quiet_of (fent_any B p cb fb lv s F _ (h.keep ((Ch.refl _ w).drewN k)) i hi)
theorem ent_lt {s : BS} {F : Fd} (h : FOk s F) (i : Int) : F.ent i < s.vs.length := by
  have h1 := h.room
  have h2 := h.n1
  have hm1 : 0 ≤ i % (F.n : Int) := Int.emod_nonneg _ (by omega)
  have hm2 : i % (F.n : Int) < F.n := Int.emod_lt_of_pos _ (by omega)
  unfold Fd.ent
  omega
theorem fpeekb_q {B p cb : Nat} {lv : Value} {s : BS} {w : World} (h : Bank B w p cb lv s.vs s.lg) (c : Nat) (hc : c < s.vs.length) (k : Nat) :
    Calls Try.prog 62 #[.pointer (some ⟨p, 0, none⟩), .int .i64 c] (w.drewN k) fun e w'' => e = .returned (.tuple #[.int .u64 (lk s.vs c), .bool true]) ∧ ∃ m, w'' = w.drewN m :=
  Calls.quiet_of_same ((peek_ok B p cb lv s c (w.drewN k) (h.ch ((Ch.refl (fun _ => False) w).drewN k) id id (fun _ _ => id)) (by omega) (by omega)).mono fun e w' ⟨he, hw⟩ => ⟨by rw [he, Int.toNat_natCast], hw.symm⟩)

theorem take_range (m j : Nat) (g : Nat → Int) (h : j < m) : (((List.range m).map g).take (j + 1)).map (Value.int .u64) = (((List.range m).map g).take j).map (Value.int .u64) ++ [.int .u64 (g j)] := by
  rw [List.take_succ_eq_append_getElem (by simpa using h)]
  simp

set_option maxRecDepth 100000 in
set_option maxHeartbeats 1000000 in
theorem flist_any (B p cb fb : Nat) (lv : Value) (s : BS) (F : Fd) (w : World) (h : FeedM B w p cb fb lv s F) (H T : Nat) (hH : cHead s F = H) (hT : cTail s F = T) (hle : H ≤ T) (hsm : T ≤ 1000000) :
    Calls Try.prog 28 #[.pointer (some ⟨fb, 0, none⟩)] w fun e w' => FreshRow w w' (flist s F) e := by
  obtain ⟨i0, hi, hz0, hz1, hz2⟩ := info_parts Try.infoU64
  have hplt := h.fd.lt
  have hblt := h.b.hp.lt
  have hclt := h.b.hc.lt
  have hfl : flist s F = (List.range (T - H)).map fun (j : Nat) => lk s.vs (F.ent ((H : Int) + (j : Int))) := by
    unfold flist
    rw [hH, hT, show ((T : Int) - (H : Int)).toNat = T - H by omega]
  obtain ⟨g, hg⟩ : ∃ g : Nat → Int, g = fun (j : Nat) => lk s.vs (F.ent ((H : Int) + (j : Int))) := ⟨_, rfl⟩
  rw [← hg] at hfl
  have hgj : ∀ j : Nat, g j = lk s.vs (F.ent ((H : Int) + (j : Int))) := fun j => by rw [hg]
  rw [hfl]
  have Hg := hid hgj
  have HH := hid hH
  have HT := hid hT
  clear hfl hg hgj hH hT
  go_enter Try.func28, Try.ntmps28
  go_wp2_with fail
  refine (fpeek2 B p cb fb lv s F w h).mono ?_
  rintro e w0 ⟨rfl, rfl⟩
  rw [HH.out]
  go_wp2_with fail
  go_loopw [3, 4] (fun v i wr => ∃ j : Nat, j ≤ T - H ∧ i = .int .u64 ((H : Int) + (j : Int)) ∧ wr.ownsRow w.heap.size 35 1 v j ((((List.range (T - H)).map g).take j).map (Value.int .u64)) ∧ Ch (fun _ => False) w wr) (fun _ i _ => T - (intOf i).toNat)
  case atStart => exact ⟨0, by omega, by simp, World.ownsRow_nil _ _ _ _, Ch.refl _ _⟩
  case round =>
    obtain ⟨j, hj, rfl, hown, hch⟩ := hrel
    obtain ⟨A0, cap0, hv0, _⟩ := own_slice hown
    subst hv0
    have hF := h.keep hch
    by_cases hlt : j < T - H
    · go_wp2_with fail
      refine (fpeek3 B p cb fb lv s F wr hF).mono ?_
      rintro e w1 ⟨rfl, rfl⟩
      rw [HT.out]
      have hne : (((H : Int) + (j : Int)) != (T : Int)) = true := by rw [bne_iff_ne]; omega
      have f0 := hF.c0
      have hel := ent_lt hF.ok ((H : Int) + (j : Int))
      have HF := hid hF
      clear hF
      go_wp2_with fail
      go_quiet ((first | (go_at_call 63; exact fent_q HF.out _ (by omega) _) | (go_at_call 62; exact fpeekb_q HF.out.b _ hel _)))
      rw [← Hg.out j]
      have hch1 : Ch (fun _ => False) w (wr.drewN nq) := hch.drewN nq
      have hown1 : (wr.drewN nq).ownsRow w.heap.size 35 1 (.slice A0 j cap0) j ((((List.range (T - H)).map g).take j).map (Value.int .u64)) := ((Ch.refl (fun _ => False) wr).drewN nq).own hown (fun _ _ => id)
      clear hne hown f0
      go_wp2_with (at_builtin; refine wpList_app _ rfl (.tmp 29) (.tmp 31) 30 rfl w.heap.size 35 i0 _ 1 8 Try.underlying30 hi hz0 hz1 hz2 rfl (by decide) _ _ _ rfl (hown1.alloc _) ⟨wr.heap.size, 0, none⟩ 1 1 [.int .u64 (g j)] rfl rfl ?c1 ?c2 (by decide) ?c3 ?c4 ?c5 ?c6)
      case c1 => intro j' u hu; rw [addr_add0]; exact ((Blk.new (wr.drewN nq) 35 #[.int .u64 (g j)]).cell j').trans (by simpa using hu)
      case c2 => intro u hu; simp at hu; subst hu; rfl
      case c3 => unfold maxLen; omega
      case c4 => omega
      case c5 => exact Nat.le_trans hch.size (by simp)
      case c6 =>
        intro v' w' hown' hgrow hfresh
        have hch' : Ch (fun _ => False) w w' := (hch1.alloc _).grown hgrow (fun g hg hlt => (Nat.lt_irrefl _ (Nat.lt_of_lt_of_le hlt (hown1.lt g hg).1)).elim)
        go_wp2_with fail
        go_roundw
        case rel => exact ⟨j + 1, by omega, by push_cast; rw [Int.add_assoc], by rw [take_range _ _ _ hlt, List.map_take, List.map_map]; exact hown', hch'⟩
        case measure => simp [intOf]; omega
    · obtain rfl : j = T - H := by omega
      have hne : (((H : Int) + ((T - H : Nat) : Int)) != (T : Int)) = false := by rw [bne_eq_false_iff_eq]; omega
      go_wp2_with fail
      refine (fpeek3 B p cb fb lv s F wr hF).mono ?_
      rintro e w1 ⟨rfl, rfl⟩
      rw [HT.out]
      go_wp2_with fail
      go_ret
      refine ⟨_, rfl, ?_, hch⟩
      rw [List.take_of_length_le (by simp)] at hown
      simpa using hown
end Go.Proofs.Ytonjbofdmmnpdaa
