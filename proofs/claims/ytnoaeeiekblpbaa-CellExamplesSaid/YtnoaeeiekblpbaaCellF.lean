/- Accesses compared and copied; the reference's log. -/
import Derived.Test.YtnoaeeiekblpbaaReplay
import Derived.Test.YtnoaeeiekblpbaaRefB
import Derived.Laws.StructEq
namespace Go.Proofs.Ytnoaeeiekblpbaa
open Go.RowKit
set_option linter.unusedVariables false

def accB (x y : Acc) : Bool := x.t == y.t && (x.c == y.c && (x.k == y.k && (x.o == y.o && (x.n == y.n && x.s == y.s))))
theorem accB_iff (x y : Acc) : accB x y = true ↔ x = y := by
  obtain ⟨a, b, c, d, e, f⟩ := x
  obtain ⟨a', b', c', d', e', f'⟩ := y
  simp [accB]

theorem acc_neq_run (x y : Acc) (w : World) : (binOp .neq 49 x.agg y.agg).run Try.prog w = .ok (.bool (!(accB x y))) w := by
  unfold Acc.agg accB
  go_simp
  repeat' split
  all_goals simp_all

theorem exec_acc_neq {o : Oper} {a : Act} {s t : Operand} {ty : TypeId} (ho : o.op = .binOp .neq 49 s t ty) {x y : Acc} (hs : a.eval s = x.agg) (ht : a.eval t = y.agg) (W : World) : (execOp a.eval o).run Try.prog W = .ok (.value (.bool (!(accB x y)))) W := by
  have hr := acc_neq_run x y W
  have hg := run_eqGuard_agg (P := Try.prog) W .neq 49 s t #[.int .i64 x.t, .int .i64 x.c, .int .u8 x.k, .int .u64 x.o, .int .u64 x.n, .bool x.s] #[.int .i64 y.t, .int .i64 y.c, .int .u8 y.k, .int .u64 y.o, .int .u64 y.n, .bool y.s] (by kernel_rfl)
  have hg' : (eqGuard .neq 49 s t x.agg y.agg).run Try.prog W = .ok () W := hg
  simp [execOp, ho, hs, ht, hr, hg']

theorem own_accs {w : World} {B n : Nat} {v : Value} {lg : List Acc} (h : w.ownsRow B 49 6 v n (logCells lg)) : ∃ A cap, v = .slice A n cap ∧ n ≤ cap ∧ InAccs w A n lg := by
  have hl : lg.length = n := by have := h.1; rw [logCells_length] at this; omega
  obtain ⟨A, cap, rfl, hcap⟩ := own_slice h
  refine ⟨A, cap, rfl, hcap, hl, fun h0 => ?_⟩
  obtain ⟨g, c', hv, _, _, _, hg⟩ := own_form h h0
  injection hv with hA _ _
  subst hA
  refine ⟨g, 0, rfl, hg, fun i j x v hi hj => ?_⟩
  rw [Nat.zero_add]
  have := h.cells (g := g) rfl (i * 6 + j) v (logCells_get lg i x hi j v hj)
  rwa [addr_add0] at this

set_option maxHeartbeats 1000000 in
theorem eqAccs_any (a b : Option Addr) (n ca m cb : Nat) (xs ys : List Acc) (w : World) (ha : InAccs w a n xs) (hb : InAccs w b m ys) (hn : n < 1000000) :
    Calls Try.prog 27 #[.slice a n ca, .slice b m cb] w fun e w' => (xs = ys → e = .returned (.bool true)) ∧ ∃ k, w' = w.drewN k := by
  by_cases hnm : n = m
  · subst hnm
    have hne : ((n : Int) != (n : Int)) = false := by simp
    go_enter Try.func27, Try.ntmps27
    go_wp2_with fail
    go_loopw [5] (fun i wr => ∃ k : Nat, k ≤ n ∧ i = .int .i64 k ∧ ∃ d, wr = w.drewN d) (fun i _ => n - (intOf i).toNat)
    case atStart => exact ⟨0, Nat.zero_le _, rfl, 0, rfl⟩
    case round =>
      obtain ⟨k, hk, rfl, d, rfl⟩ := hrel
      by_cases hlt : k < n
      · obtain ⟨b1, o1, rfl, _, h1⟩ := ha.2 (by omega)
        obtain ⟨b2, o2, rfl, _, h2⟩ := hb.2 (by omega)
        obtain ⟨x, hx⟩ : ∃ x, xs[k]? = some x := ⟨_, List.getElem?_eq_getElem (by have := ha.1; omega)⟩
        obtain ⟨y, hy⟩ : ∃ y, ys[k]? = some y := ⟨_, List.getElem?_eq_getElem (by have := hb.1; omega)⟩
        have c0 : w.cell? ⟨b1, o1 + k * 6, none⟩ = some (.int .i64 x.t) := h1 k 0 x _ hx rfl
        have c1 : w.cell? ⟨b1, o1 + k * 6 + 1, none⟩ = some (.int .i64 x.c) := h1 k 1 x _ hx rfl
        have c2 : w.cell? ⟨b1, o1 + k * 6 + 2, none⟩ = some (.int .u8 x.k) := h1 k 2 x _ hx rfl
        have c3 : w.cell? ⟨b1, o1 + k * 6 + 3, none⟩ = some (.int .u64 x.o) := h1 k 3 x _ hx rfl
        have c4 : w.cell? ⟨b1, o1 + k * 6 + 4, none⟩ = some (.int .u64 x.n) := h1 k 4 x _ hx rfl
        have c5 : w.cell? ⟨b1, o1 + k * 6 + 5, none⟩ = some (.bool x.s) := h1 k 5 x _ hx rfl
        have e0 : w.cell? ⟨b2, o2 + k * 6, none⟩ = some (.int .i64 y.t) := h2 k 0 y _ hy rfl
        have e1 : w.cell? ⟨b2, o2 + k * 6 + 1, none⟩ = some (.int .i64 y.c) := h2 k 1 y _ hy rfl
        have e2 : w.cell? ⟨b2, o2 + k * 6 + 2, none⟩ = some (.int .u8 y.k) := h2 k 2 y _ hy rfl
        have e3 : w.cell? ⟨b2, o2 + k * 6 + 3, none⟩ = some (.int .u64 y.o) := h2 k 3 y _ hy rfl
        have e4 : w.cell? ⟨b2, o2 + k * 6 + 4, none⟩ = some (.int .u64 y.n) := h2 k 4 y _ hy rfl
        have e5 : w.cell? ⟨b2, o2 + k * 6 + 5, none⟩ = some (.bool y.s) := h2 k 5 y _ hy rfl
        have Hx := hid hx
        have Hy := hid hy
        clear h1 h2 hx hy
        by_cases he : accB x y = true
        · go_wp2_with fail
          refine Mix.wp_region_mix (fun _ => True) (fun i => ([0, 0, 0, 0, 0, 0, 0, 0, 0] : List Nat).getD i 0) [0, 1, 2, 3, 4, 5, 6, 7, 8] (by kernel_rfl) (by kernel_rfl) ?_
          iterate 8 (refine Mix.mix_q (by simp only [List.getElem?_toArray, List.getElem?_cons_zero, List.getElem?_cons_succ]; exact rfl) rfl ?_; go_big_quiet_step (fail); refine wpQuiet_nil ?_)
          refine Mix.mix_v (by simp only [List.getElem?_toArray, List.getElem?_cons_zero, List.getElem?_cons_succ]; exact rfl) rfl (.bool false) rfl (fun W _ => by rw [exec_acc_neq (x := x) (y := y) rfl rfl rfl W, he]; rfl) ?_
          simp only [Act.put, List.setIfInBounds_toArray, List.set_cons_succ, List.set_cons_zero]
          intro n1
          go_wp2_with fail
          go_roundw
          case rel => exact ⟨k + 1, by omega, by go_num, _, rfl⟩
          case measure => simp [intOf]; omega
        · have he' : accB x y = false := by simpa using he
          go_wp2_with fail
          refine Mix.wp_region_mix (fun _ => True) (fun i => ([0, 0, 0, 0, 0, 0, 0, 0, 0] : List Nat).getD i 0) [0, 1, 2, 3, 4, 5, 6, 7, 8] (by kernel_rfl) (by kernel_rfl) ?_
          iterate 8 (refine Mix.mix_q (by simp only [List.getElem?_toArray, List.getElem?_cons_zero, List.getElem?_cons_succ]; exact rfl) rfl ?_; go_big_quiet_step (fail); refine wpQuiet_nil ?_)
          refine Mix.mix_v (by simp only [List.getElem?_toArray, List.getElem?_cons_zero, List.getElem?_cons_succ]; exact rfl) rfl (.bool true) rfl (fun W _ => by rw [exec_acc_neq (x := x) (y := y) rfl rfl rfl W, he']; rfl) ?_
          simp only [Act.put, List.setIfInBounds_toArray, List.set_cons_succ, List.set_cons_zero]
          intro n1
          go_wp2_with fail
          go_ret
          refine ⟨fun hxy => ?_, _, World.drewN_drewN _ _ _⟩
          have hxy2 := Hy.out
          rw [← hxy, Hx.out] at hxy2
          exact absurd ((accB_iff x y).2 (Option.some.inj hxy2)) he
      · go_wp2_with fail
        go_ret
        exact ⟨fun _ => rfl, _, rfl⟩
  · have hne : ((n : Int) != (m : Int)) = true := by rw [bne_iff_ne]; omega
    go_enter Try.func27, Try.ntmps27
    go_wp2_with fail
    go_ret
    exact ⟨fun hxy => absurd (by rw [← ha.1, ← hb.1, hxy]) hnm, 0, rfl⟩

/-- A slice of accesses that the call owns. -/
def Owned (w w' : World) (lg : List Acc) (e : Ending) : Prop := ∃ v, e = .returned v ∧ w'.ownsRow w.heap.size 49 6 v lg.length (logCells lg) ∧ Ch (fun _ => False) w w'

set_option maxHeartbeats 1000000 in
theorem copyAccs_any (a : Option Addr) (n ca : Nat) (xs : List Acc) (w : World) (ha : InAccs w a n xs) (hn : n < 1000000) :
    Calls Try.prog 29 #[.slice a n ca] w fun e w' => Owned w w' xs e := by
  obtain ⟨i0, hi, hz0, hz1, hz2⟩ := info_parts Try.infoAcc
  go_enter Try.func29, Try.ntmps29
  go_wp2_with fail
  go_loopw [3, 4] (fun v i wr => ∃ k : Nat, k ≤ n ∧ i = .int .i64 k ∧ wr.ownsRow w.heap.size 49 6 v k (logCells (xs.take k)) ∧ Ch (fun _ => False) w wr) (fun _ i _ => n - (intOf i).toNat)
  case atStart => exact ⟨0, Nat.zero_le _, rfl, World.ownsRow_nil _ _ _ _, Ch.refl _ _⟩
  case round =>
    obtain ⟨k, hk, rfl, hown, hch⟩ := hrel
    by_cases hlt : k < n
    · obtain ⟨b1, o1, rfl, hbl, h1⟩ := ha.2 (by omega)
      obtain ⟨x, hx⟩ : ∃ x, xs[k]? = some x := ⟨_, List.getElem?_eq_getElem (by have := ha.1; omega)⟩
      have c0 : wr.cell? ⟨b1, o1 + k * 6, none⟩ = some (.int .i64 x.t) := (hch.cell (p := ⟨b1, _, none⟩) hbl id).trans (h1 k 0 x _ hx rfl)
      have c1 : wr.cell? ⟨b1, o1 + k * 6 + 1, none⟩ = some (.int .i64 x.c) := (hch.cell (p := ⟨b1, _, none⟩) hbl id).trans (h1 k 1 x _ hx rfl)
      have c2 : wr.cell? ⟨b1, o1 + k * 6 + 2, none⟩ = some (.int .u8 x.k) := (hch.cell (p := ⟨b1, _, none⟩) hbl id).trans (h1 k 2 x _ hx rfl)
      have c3 : wr.cell? ⟨b1, o1 + k * 6 + 3, none⟩ = some (.int .u64 x.o) := (hch.cell (p := ⟨b1, _, none⟩) hbl id).trans (h1 k 3 x _ hx rfl)
      have c4 : wr.cell? ⟨b1, o1 + k * 6 + 4, none⟩ = some (.int .u64 x.n) := (hch.cell (p := ⟨b1, _, none⟩) hbl id).trans (h1 k 4 x _ hx rfl)
      have c5 : wr.cell? ⟨b1, o1 + k * 6 + 5, none⟩ = some (.bool x.s) := (hch.cell (p := ⟨b1, _, none⟩) hbl id).trans (h1 k 5 x _ hx rfl)
      have htk : logCells (xs.take (k + 1)) = logCells (xs.take k) ++ x.cells := by
        have hkl := (List.getElem?_eq_some_iff.1 hx)
        rw [List.take_succ_eq_append_getElem hkl.1, hkl.2, logCells_snoc]
      have Htk := hid htk
      clear htk h1 hx
      obtain ⟨A0, cap0, hv0, _⟩ := own_slice hown
      subst hv0
      go_wp2_with (at_builtin; refine wpList_app _ rfl (.tmp 11) (.tmp 16) 22 rfl w.heap.size 49 i0 _ 6 48 Try.underlying22 hi hz0 hz1 hz2 rfl (by decide) _ _ _ rfl (hown.alloc _) ⟨wr.heap.size, 0, none⟩ 1 1 x.cells rfl rfl ?c1 ?c2 (by decide) ?c3 ?c4 ?c5 ?c6)
      case c1 => intro j u hu; rw [addr_add0, (Blk.new wr 49 _).cell j]; simpa [Acc.cells] using hu
      case c2 => exact fun u hu => acc_one [x] u (by simpa [logCells] using hu)
      case c3 => unfold maxLen; omega
      case c4 => omega
      case c5 => exact Nat.le_trans hch.size (by simp)
      case c6 =>
        intro v' w' hown' hgrow hfresh
        have hch' : Ch (fun _ => False) w w' := (hch.alloc _).grown hgrow (fun g hg hlt => (Nat.lt_irrefl _ (Nat.lt_of_lt_of_le hlt (hown.lt g hg).1)).elim)
        go_wp2_with fail
        go_roundw
        case rel => exact ⟨k + 1, by omega, by go_num, by rw [Htk.out]; exact hown', hch'⟩
        case measure => simp [intOf]; omega
    · have hkn : k = n := by omega
      subst hkn
      go_wp2_with fail
      go_ret
      exact ⟨_, rfl, by rw [List.take_of_length_le (by rw [ha.1]; exact Nat.le_refl _)] at hown; rw [ha.1]; exact hown, hch⟩

set_option maxHeartbeats 1000000 in
theorem rlog_any (B p vb : Nat) (lv : Value) (s : BS) (f : Int) (w : World) (h : RBank B w p vb lv s.vs s.lg) (hlen : s.lg.length < 1000000) :
    Calls Try.prog 28 #[.pointer (some ⟨p, 0, none⟩), .int .i64 f] w fun e w' => Owned w w' (s.lg.drop (cutAt f s.lg.length)) e := by
  obtain ⟨i0, hi, hz0, hz1, hz2⟩ := info_parts Try.infoAcc
  obtain ⟨AL, capL, hlv, _, hin⟩ := own_accs h.hl
  subst hlv
  have g1 := h.hp.cell 1
  have hplt := h.hp.lt
  simp only [List.getElem?_toArray, List.getElem?_cons_zero, List.getElem?_cons_succ] at g1
  obtain ⟨ct, hct⟩ : ∃ ct, ct = cutAt f s.lg.length := ⟨_, rfl⟩
  have hctl : ct ≤ s.lg.length := by rw [hct]; exact cutAt_le _ _
  have hcf : ∀ k : Nat, k < s.lg.length → (f ≤ (k : Int) ↔ ct ≤ k) := by
    intro k hk
    rw [hct]
    unfold cutAt
    split
    · omega
    · split <;> omega
  rw [← hct]
  clear hct
  go_enter Try.func28, Try.ntmps28
  go_wp2_with fail
  go_loopw [5, 6] (fun v i wr => ∃ k : Nat, k ≤ s.lg.length ∧ i = .int .i64 k ∧ wr.ownsRow w.heap.size 49 6 v (k - ct) (logCells ((s.lg.take k).drop ct)) ∧ Ch (fun _ => False) w wr) (fun _ i _ => s.lg.length - (intOf i).toNat)
  case atStart => exact ⟨0, Nat.zero_le _, rfl, by simpa [logCells] using World.ownsRow_nil _ _ _ _, Ch.refl _ _⟩
  case round =>
    obtain ⟨k, hk, rfl, hown, hch⟩ := hrel
    have g1' := (hch.cell (p := ⟨p, 1, none⟩) hplt id).trans g1
    by_cases hlt : k < s.lg.length
    · obtain ⟨b1, o1, rfl, hbl, h1⟩ := hin.2 (by omega)
      obtain ⟨x, hx⟩ : ∃ x, s.lg[k]? = some x := ⟨_, List.getElem?_eq_getElem hlt⟩
      have c0 : wr.cell? ⟨b1, o1 + k * 6, none⟩ = some (.int .i64 x.t) := (hch.cell (p := ⟨b1, _, none⟩) hbl id).trans (h1 k 0 x _ hx rfl)
      have c1 : wr.cell? ⟨b1, o1 + k * 6 + 1, none⟩ = some (.int .i64 x.c) := (hch.cell (p := ⟨b1, _, none⟩) hbl id).trans (h1 k 1 x _ hx rfl)
      have c2 : wr.cell? ⟨b1, o1 + k * 6 + 2, none⟩ = some (.int .u8 x.k) := (hch.cell (p := ⟨b1, _, none⟩) hbl id).trans (h1 k 2 x _ hx rfl)
      have c3 : wr.cell? ⟨b1, o1 + k * 6 + 3, none⟩ = some (.int .u64 x.o) := (hch.cell (p := ⟨b1, _, none⟩) hbl id).trans (h1 k 3 x _ hx rfl)
      have c4 : wr.cell? ⟨b1, o1 + k * 6 + 4, none⟩ = some (.int .u64 x.n) := (hch.cell (p := ⟨b1, _, none⟩) hbl id).trans (h1 k 4 x _ hx rfl)
      have c5 : wr.cell? ⟨b1, o1 + k * 6 + 5, none⟩ = some (.bool x.s) := (hch.cell (p := ⟨b1, _, none⟩) hbl id).trans (h1 k 5 x _ hx rfl)
      by_cases hcmp : ct ≤ k
      · have hfk : f ≤ (k : Int) := (hcf k hlt).2 hcmp
        have htk : logCells ((s.lg.take (k + 1)).drop ct) = logCells ((s.lg.take k).drop ct) ++ x.cells := by
          have hkl := (List.getElem?_eq_some_iff.1 hx)
          rw [List.take_succ_eq_append_getElem hkl.1, hkl.2, List.drop_append_of_le_length (by rw [List.length_take]; omega), logCells_snoc]
        have Htk := hid htk
        have Hcf := hid hcf
        clear htk h1 hx hcf
        obtain ⟨A0, cap0, hv0, _⟩ := own_slice hown
        subst hv0
        go_wp2_with (at_builtin; refine wpList_app _ rfl (.tmp 22) (.tmp 30) 22 rfl w.heap.size 49 i0 _ 6 48 Try.underlying22 hi hz0 hz1 hz2 rfl (by decide) _ _ _ rfl (hown.alloc _) ⟨wr.heap.size, 0, none⟩ 1 1 x.cells rfl rfl ?c1 ?c2 (by decide) ?c3 ?c4 ?c5 ?c6)
        case c1 => intro j u hu; rw [addr_add0, (Blk.new wr 49 _).cell j]; simpa [Acc.cells] using hu
        case c2 => exact fun u hu => acc_one [x] u (by simpa [logCells] using hu)
        case c3 => unfold maxLen; omega
        case c4 => omega
        case c5 => exact Nat.le_trans hch.size (by simp)
        case c6 =>
          intro v' w' hown' hgrow hfresh
          have hch' : Ch (fun _ => False) w w' := (hch.alloc _).grown hgrow (fun g hg hlt => (Nat.lt_irrefl _ (Nat.lt_of_lt_of_le hlt (hown.lt g hg).1)).elim)
          go_wp2_with fail
          go_roundw
          case rel => exact ⟨k + 1, by omega, by go_num, by rw [Htk.out, show k + 1 - ct = k - ct + 1 from by omega]; exact hown', hch'⟩
          case measure => simp [intOf]; omega
      · have hfk : ¬ f ≤ (k : Int) := fun h => hcmp ((hcf k hlt).1 h)
        have hfk' : (k : Int) < f := by omega
        have Hcf := hid hcf
        clear h1 hx hcf
        go_wp2_with fail
        go_roundw
        case rel =>
          refine ⟨k + 1, by omega, by go_num, ?_, hch⟩
          have e1 : k + 1 - ct = k - ct := by omega
          have e2 : (s.lg.take (k + 1)).drop ct = (s.lg.take k).drop ct := by
            rw [List.drop_eq_nil_of_le (by rw [List.length_take]; omega), List.drop_eq_nil_of_le (by rw [List.length_take]; omega)]
          rw [e1, e2]
          exact hown
        case measure => simp [intOf]; omega
    · have hkn : k = s.lg.length := by omega
      subst hkn
      have Hcf := hid hcf
      clear hcf
      go_wp2_with fail
      go_ret
      rw [List.take_length] at hown
      exact ⟨_, rfl, by rw [List.length_drop]; exact hown, hch⟩
end Go.Proofs.Ytnoaeeiekblpbaa
