/- Lengths and lists of both queues; a step of the reference's pull. -/
import Derived.Test.YtpkjjlahmjijnaaRQC
namespace Go.Proofs.Ytpkjjlahmjijnaa
open Go.RowKit
set_option linter.unusedVariables false
set_option linter.unusedSimpArgs false
set_option linter.unusedSectionVars false

section
variable (B p cb qb : Nat) (lv : Value) (s : BS) (f : Qd) (pu : Value) (w : World) (h : QueueM B w p cb qb lv s f pu) (hH : 0 ≤ qH s f ∧ qH s f ≤ 1000000) (hT : 0 ≤ qT s f ∧ qT s f ≤ 1000000)
include h hH hT
set_option maxHeartbeats 400000 in
theorem qlen2_any : Calls Try.prog 17 #[.pointer (some ⟨qb, 0, none⟩)] w fun e w' => e = .returned (.int .i64 (qT s f - qH s f)) ∧ ∃ n, w' = w.drewN n := by
  obtain ⟨x, hx⟩ : ∃ x, x = qH s f := ⟨_, rfl⟩
  obtain ⟨y, hy⟩ : ∃ y, y = qT s f := ⟨_, rfl⟩
  have QB := qbounds_any B p cb qb lv s f pu w h
  rw [← hx, ← hy] at QB
  rw [← hx] at hH ⊢
  rw [← hy] at hT ⊢
  have hcv : IntKind.i64.wrap (IntKind.u64.wrap (y - x)) = y - x := by
    rw [w64_wrap]
    simp only [IntKind.wrap, IntKind.signed, IntKind.bits, w64]
    simp
    omega
  clear hx hy h
  go_enter Try.func17, Try.ntmps17
  go_wp2_with fail
  refine QB.mono ?_
  rintro e w1 ⟨rfl, n1, rfl⟩
  clear QB
  go_wp2_with fail
  go_ret
  exact ⟨by first | rfl | simp [hcv], _, rfl⟩
set_option maxHeartbeats 400000 in
theorem qlist2_any : Calls Try.prog 18 #[.pointer (some ⟨qb, 0, none⟩)] w fun e w' => FreshRow w w' (qlist s f) e := by
  obtain ⟨H, hHn⟩ := Int.eq_ofNat_of_zero_le hH.1
  obtain ⟨T, hTn⟩ := Int.eq_ofNat_of_zero_le hT.1
  by_cases hle : H ≤ T
  · exact qlist_any B p cb qb lv s f pu w h H T hHn hTn hle (by omega)
  · have hq : qlist s f = [] := by
      unfold qlist
      rw [hHn, hTn, show ((T : Int) - (H : Int)).toNat = 0 by omega]; rfl
    have QB := qbounds_any B p cb qb lv s f pu w h
    rw [hHn, hTn] at QB
    rw [hq]
    have hne : decide ((H : Int) < (T : Int)) = false := decide_eq_false (by omega)
    have hne' : decide (H < T) = false := decide_eq_false (by omega)
    clear hq hHn hTn h
    go_enter Try.func18, Try.ntmps18
    go_wp2_with fail
    refine QB.mono ?_
    rintro e w1 ⟨rfl, n1, rfl⟩
    clear QB
    go_wp2_with fail
    go_loopw [3, 6] (fun v i wr => v = .slice none 0 0 ∧ i = .int .u64 (H : Int) ∧ ∃ d, wr = w.drewN d) (fun _ _ _ => 0)
    case atStart => exact ⟨rfl, rfl, _, rfl⟩
    case round =>
      obtain ⟨rfl, rfl, d, rfl⟩ := hrel
      go_wp2_with fail
      go_ret
      exact ⟨_, rfl, World.ownsRow_nil _ _ _ _, (Ch.refl _ _).drewN d⟩
end

set_option maxRecDepth 100000 in
set_option maxHeartbeats 1000000 in
theorem rqlist_any (B rp vb rq : Nat) (mv : Value) (s : BS) (f : Qd) (bs : Bool) (w : World) (h : RQuM B w rp vb rq mv s f bs) (hH : 0 ≤ qH s f ∧ qH s f ≤ 1000000) (hT : 0 ≤ qT s f ∧ qT s f ≤ 1000000) : Calls Try.prog 42 #[.pointer (some ⟨rq, 0, none⟩)] w fun e w' => FreshRow w w' (qlist s f) e := by
  obtain ⟨i0, hi, hz0, hz1, hz2⟩ := info_parts Try.infoU64
  obtain ⟨H, hHn⟩ := Int.eq_ofNat_of_zero_le hH.1
  obtain ⟨T, hTn⟩ := Int.eq_ofNat_of_zero_le hT.1
  obtain ⟨m, hm⟩ : ∃ m, m = T - H := ⟨_, rfl⟩
  have hfl : qlist s f = (List.range m).map fun (j : Nat) => lk s.vs (f.ent ((H : Int) + (j : Int))) := by
    unfold qlist
    rw [hHn, hTn, show ((T : Int) - (H : Int)).toNat = m by omega]
  obtain ⟨g, hg⟩ : ∃ g : Nat → Int, g = fun (j : Nat) => lk s.vs (f.ent ((H : Int) + (j : Int))) := ⟨_, rfl⟩
  rw [← hg] at hfl
  have hgj : ∀ j : Nat, g j = lk s.vs (f.ent ((H : Int) + (j : Int))) := fun j => by rw [hg]
  rw [hfl]
  have Hg := hid hgj
  have b0 : w.cell? ⟨rq, 0, none⟩ = some (.pointer (some ⟨rp, 0, none⟩)) := h.fd.cell 0
  have b1 : w.cell? ⟨rq, 1, none⟩ = some (.int .i64 f.head) := h.fd.cell 1
  have hn := h.r.hn
  have hkh := h.ok.h
  have hkt := h.ok.t
  have hkr := h.ok.r
  have hn1 := h.ok.n1
  have hn2 := h.ok.n2
  have r0 : w.cell? ⟨rp, 0, none⟩ = some (.slice (some ⟨vb, 0, none⟩) s.vs.length s.vs.length) := h.r.hp.cell 0
  have dh : decide (f.head < s.vs.length) = true := decide_eq_true hkh
  have dt : decide (f.tail < s.vs.length) = true := decide_eq_true hkt
  have vh : w.cell? ⟨vb, f.head, none⟩ = some (.int .u64 (H : Int)) := by rw [← hHn]; exact h.vcell f.head hkh
  have HTN := hid hTn
  have hT6 : T ≤ 1000000 := by omega
  have hH6 : H ≤ 1000000 := by omega
  have hmle : m ≤ T := by omega
  have HM := hid hm
  clear hfl hg hgj hHn hTn hH hT hm
  go_enter Try.func42, Try.ntmps42
  go_wp2_with fail
  go_quiet (fail)
  go_wp2_with fail
  clear b0 b1 r0 vh
  go_loopw [3, 4] (fun v i wr => ∃ j : Nat, j ≤ m ∧ i = .int .u64 ((H : Int) + (j : Int)) ∧ wr.ownsRow w.heap.size 22 1 v j ((((List.range m).map g).take j).map (Value.int .u64)) ∧ Ch (fun _ => False) w wr) (fun _ i _ => T - (intOf i).toNat)
  case atStart => exact ⟨0, by omega, by simp, World.ownsRow_nil _ _ _ _, (Ch.refl _ _).drewN _⟩
  case round =>
    obtain ⟨j, hj, rfl, hown, hch⟩ := hrel
    obtain ⟨A0, cap0, hv0, _⟩ := own_slice hown
    subst hv0
    have hF := h.keep hch
    have b0 : wr.cell? ⟨rq, 0, none⟩ = some (.pointer (some ⟨rp, 0, none⟩)) := hF.fd.cell 0
    have b2 : wr.cell? ⟨rq, 2, none⟩ = some (.int .i64 f.tail) := hF.fd.cell 2
    have r0 : wr.cell? ⟨rp, 0, none⟩ = some (.slice (some ⟨vb, 0, none⟩) s.vs.length s.vs.length) := hF.r.hp.cell 0
    have vt : wr.cell? ⟨vb, f.tail, none⟩ = some (.int .u64 (T : Int)) := by rw [← HTN.out]; exact hF.vcell f.tail hkt
    by_cases hlt : j < m
    · have hTm : T = H + m := by have := HM.out; omega
      have hne : decide (((H : Int) + (j : Int)) < (T : Int)) = true := decide_eq_true (by omega)
      have hw1 : IntKind.u64.wrap ((H : Int) + (j : Int) + 1) = (H : Int) + (j : Int) + 1 := by rw [w64_wrap]; unfold w64; omega
      have hel := (ent_lt hF.ok ((H : Int) + (j : Int))).2
      have de : decide (f.ent ((H : Int) + (j : Int)) < s.vs.length) = true := decide_eq_true hel
      obtain ⟨c, hc⟩ : ∃ c, c = f.ent ((H : Int) + (j : Int)) := ⟨_, rfl⟩
      have ve : wr.cell? ⟨vb, c, none⟩ = some (.int .u64 (g j)) := by rw [Hg.out j, ← hc]; exact hF.vcell c (by rw [hc]; exact hel)
      rw [← hc] at hel de
      have HC := hid hc
      have HF := hid hF
      have HTM := hid hTm
      clear hc hF hTm
      go_wp2_with fail
      go_quiet (fail)
      go_wp2_with fail
      obtain ⟨S, hS⟩ : ∃ S : Nat → Prop, ∀ k, S k ↔ k < wr.heap.size := ⟨_, fun _ => Iff.rfl⟩
      have HS := hid hS
      clear hS vt
      refine Mix.wp_region_mix S (fun i => ([1, 0, 0, 0, 0, 0, 0, 0, 0, 0, 0, 0, 0, 3, 2, 0] : List Nat).getD i 0) [0, 1, 2, 3, 4, 5, 6, 7, 8, 9, 10, 11, 12, 13, 14, 15] (by kernel_rfl) (by kernel_rfl) ?_
      refine Mix.mix_world fun W0 hW0 => ?_
      have HF0 := hid (show RQuM B W0 rp vb rq mv s f bs by rw [hW0]; exact HF.out.drewN _)
      have b0 : W0.cell? ⟨rq, 0, none⟩ = some (.pointer (some ⟨rp, 0, none⟩)) := by rw [hW0]; exact b0
      have r0 : W0.cell? ⟨rp, 0, none⟩ = some (.slice (some ⟨vb, 0, none⟩) s.vs.length s.vs.length) := by rw [hW0]; exact r0
      have ve : W0.cell? ⟨vb, c, none⟩ = some (.int .u64 (g j)) := by rw [hW0]; exact ve
      have hch0 : Ch (fun _ => False) w W0 := by rw [hW0]; exact hch.drewN _
      have hown0 : W0.ownsRow w.heap.size 22 1 (.slice A0 j cap0) j ((((List.range m).map g).take j).map (Value.int .u64)) := by rw [hW0]; exact ((Ch.refl (fun _ => False) wr).drewN _).own hown (fun _ _ => id)
      have hz0w : W0.heap.size = wr.heap.size := by rw [hW0]; rfl
      clear hW0 hch hown
      have HENT : ∀ k, Calls Try.prog 66 #[.pointer (some ⟨rq, 0, none⟩), .int .u64 ((H : Int) + (j : Int))] (W0.drewN k) fun e w'' => e = .returned (.int .i64 (c : Nat)) ∧ ∃ m, w'' = W0.drewN m := fun k => by
        rw [HC.out]
        exact rent_q B rp vb rq mv s f bs W0 HF0.out ((H : Int) + (j : Int)) ⟨by omega, by omega⟩ k
      have HE := hid HENT
      clear HENT
      have HZ0 := hid hz0w
      clear hz0w
      repeat (first | (refine Mix.mix_q (by simp only [List.getElem?_toArray, List.getElem?_cons_zero, List.getElem?_cons_succ]; exact rfl) rfl ?_; go_big_quiet_step ((go_at_call 66; exact HE.out _)); refine wpQuiet_nil ?_) | (refine Mix.mix_p (by simp only [List.getElem?_toArray, List.getElem?_cons_zero, List.getElem?_cons_succ]; exact rfl) rfl rfl ?_; go_big_quiet_step (fail); refine wpQuiet_nil ?_) | (refine Mix.mix_s (by simp only [List.getElem?_toArray, List.getElem?_cons_zero, List.getElem?_cons_succ]; exact rfl) rfl rfl ?_; go_big_quiet_step (fail); refine wpQuiet_nil ?_))
      refine Mix.mix_a (by simp only [List.getElem?_toArray, List.getElem?_cons_zero, List.getElem?_cons_succ]; exact rfl) rfl fun W1 hW1 => ?_
      obtain ⟨n1, rfl⟩ := hW1
      go_wp2_with fail
      refine ⟨fun k hk => Below.heap_alloc _ _ k (by rw [show (W0.drewN n1).heap.size = W0.heap.size from rfl, HZ0.out]; exact (HS.out k).1 hk), Mix.mix_world fun W2 hW2 => ?_⟩
      have cW : Ch (fun _ => False) W0 W2 := by rw [hW2]; first | exact Ch.push rfl rfl rfl rfl | exact ((Ch.refl _ W0).drewN n1).alloc _
      have nW : Blk W2 W0.heap.size 22 #[.int .u64 (g j)] := by rw [hW2]; first | exact Blk.push rfl | exact Blk.new (W0.drewN n1) _ _
      clear hW2
      refine Mix.mix_e (by simp only [List.getElem?_toArray, List.getElem?_cons_zero, List.getElem?_cons_succ]; exact rfl) rfl fun W3 hW3 => ?_
      obtain ⟨n2, rfl⟩ := hW3
      refine wpList_app _ rfl _ _ 40 rfl w.heap.size 22 i0 _ 1 8 Try.underlying40 hi hz0 hz1 hz2 rfl (by decide) _ _ _ rfl ((cW.drewN n2).own hown0 (fun _ _ => id)) ⟨W0.heap.size, 0, none⟩ 1 1 [.int .u64 (g j)] rfl rfl ?c1 ?c2 (by decide) ?c3 ?c4 ?c5 ?_
      case c1 => intro j' u hu; rw [addr_add0]; exact ((nW.drewN n2).cell j').trans (by simpa using hu)
      case c2 => intro u hu; simp at hu; subst hu; rfl
      case c3 => unfold maxLen; omega
      case c4 => omega
      case c5 => exact Nat.le_trans hch0.size cW.size
      intro v' w' hown' hgrow hfresh
      have hch' : Ch (fun _ => False) w w' := ((hch0.trans cW (fun _ _ h => h)).drewN n2).grown hgrow (fun g hg hlt => (Nat.lt_irrefl _ (Nat.lt_of_lt_of_le hlt (hown0.lt g hg).1)).elim)
      clear cW nW hgrow hfresh hown0 b0 r0 ve b2
      go_wp2_with fail
      repeat (first | (refine Mix.mix_q (by simp only [List.getElem?_toArray, List.getElem?_cons_zero, List.getElem?_cons_succ]; exact rfl) rfl ?_; go_big_quiet_step (fail); refine wpQuiet_nil ?_) | (refine Mix.mix_p (by simp only [List.getElem?_toArray, List.getElem?_cons_zero, List.getElem?_cons_succ]; exact rfl) rfl rfl ?_; go_big_quiet_step (fail); refine wpQuiet_nil ?_) | (refine Mix.mix_s (by simp only [List.getElem?_toArray, List.getElem?_cons_zero, List.getElem?_cons_succ]; exact rfl) rfl rfl ?_; go_big_quiet_step (fail); refine wpQuiet_nil ?_))
      intro n3
      go_wp2_with fail
      go_roundw
      case rel => exact ⟨j + 1, by omega, by push_cast; rw [Int.add_assoc], by rw [take_range _ _ _ hlt]; exact ((Ch.refl (fun _ => False) w').drewN n3).own hown' (fun _ _ => id), hch'.drewN n3⟩
      case measure => have := HTM.out; simp [intOf]; omega
    · have hjm : j = m := by omega
      have hne : decide (((H : Int) + (j : Int)) < (T : Int)) = false := decide_eq_false (by have := HM.out; omega)
      have HJM := hid hjm
      clear hF hjm hlt
      go_wp2_with fail
      go_quiet (fail)
      go_wp2_with fail
      go_ret
      refine ⟨_, rfl, ?_, hch.drewN _⟩
      have hjm := HJM.out
      rw [hjm, List.take_of_length_le (by simp)] at hown
      have := ((Ch.refl (fun _ => False) wr).drewN nq).own hown (fun _ _ => id)
      rw [hjm]
      simpa using this

/-- A step of the reference's pull. -/
theorem rlstep_any (B rp vb rq g : Nat) (mv : Value) (s : BS) (f : Qd) (bs : Bool) (q : Pl) (w : World) (h : RQuM B w rp vb rq mv s f bs) (hq : Blk w g 115 (rplCells rq q)) (ht : 0 ≤ q.t ∧ q.t < 16) (hlen : s.lg.length < 1000000) (hB : B ≤ w.heap.size)
    (hx : 0 ≤ qH s f ∧ qH s f < 18446744073709551616) (hph : q.ph = 0 ∨ ((q.ph = 19 ∨ q.ph = 20 ∨ q.ph = 21) ∧ q.at' = qH s f)) (hbs : bs = (q.ph != 0)) :
    Calls Try.prog 39 #[.pointer (some ⟨g, 0, none⟩)] w (RQRes B rp vb rq g 115 mv f (plstep s f q).1 ((plstep s f q).2.ph != 0) (rplCells rq (plstep s f q).2) w (.tuple #[.int .u8 q.ph, .bool ((plstep s f q).2.ph == 0)])) := by
  rcases hph with e | ⟨e, hat⟩
  · have : plstep s f q = (s, q) := by unfold plstep; rw [if_neg (by rw [e]; decide), if_neg (by rw [e]; decide), if_neg (by rw [e]; decide)]
    rw [this, ← hbs, show (q.ph == 0) = true by rw [e]; rfl]
    exact rls0 B rp vb rq g mv s f bs q w h hq ht hlen hB e
  · have hb1 : bs = true := by
      rw [hbs, bne_iff_ne]
      rcases e with e | e | e <;> rw [e] <;> decide
    rcases e with e | e | e
    · by_cases hc : lk s.vs (f.ent q.at') = 0
      · rw [plstep19a e hc]
        exact (rls19a B rp vb rq g mv s f bs q w h hq ht hlen hB hat hx e hc).mono fun _ _ h => h
      · rw [plstep19b e hc]
        exact (rls19b B rp vb rq g mv s f bs q w h hq ht hlen hB hat hx e hc).mono fun _ _ h => (show (((20 : Int) != 0)) = bs from hb1.symm) ▸ h
    · rw [plstep20 e]
      exact (rls20 B rp vb rq g mv s f bs q w h hq ht hlen hB hat hx e).mono fun _ _ h => (show (((21 : Int) != 0)) = bs from hb1.symm) ▸ h
    · rw [plstep21 e]
      exact (rls21 B rp vb rq g mv s f bs q w h hq ht hlen hB hat hx e).mono fun _ _ h => h
end Go.Proofs.Ytpkjjlahmjijnaa
