/- Texts XKeepA, XDelta for XChE, by trim.py. -/
import Derived.Test.YtefpabicgefciaaGreatProg
import Derived.Test.YtefpabicgefciaaGreatDb01
import Derived.Laws.StructEq
import Derived.Laws.Cover3
namespace Go.Proofs.YtefpabicgefciaaGreat
open Go.RowKit
set_option linter.unusedVariables false
set_option linter.unusedSimpArgs false
set_option linter.unusedSectionVars false
/-- A mark, a piece. -/
structure Mk where
  id : Int
  at' : Int
  g : Int
structure Pc where
  k : Int
  n : Int
  s : ByteArray
def Mk.cells (x : Mk) : List Value := [.int .u32 x.id, .int .i64 x.at', .int .u8 x.g]
def Mk.agg (x : Mk) : Value := .agg #[.int .u32 x.id, .int .i64 x.at', .int .u8 x.g]
def mkCells (l : List Mk) : List Value := l.flatMap Mk.cells
theorem mkCells_length (l : List Mk) : (mkCells l).length = l.length * 3 := by
  induction l with
  | nil => rfl
  | cons x l ih => simp only [mkCells, List.flatMap_cons, List.length_append, List.length_cons] at ih ⊢; rw [ih]; simp [Mk.cells]; omega
theorem mkCells_get (l : List Mk) (i : Nat) (x : Mk) (hi : l[i]? = some x) (j : Nat) (v : Value) (hj : x.cells[j]? = some v) : (mkCells l)[i * 3 + j]? = some v := by
  induction l generalizing i with
  | nil => simp at hi
  | cons y l ih =>
    cases i with
    | zero =>
      injection hi with hi
      subst hi
      have hlt : j < y.cells.length := (List.getElem?_eq_some_iff.1 hj).1
      simp only [mkCells, List.flatMap_cons, Nat.zero_mul, Nat.zero_add]
      rw [List.getElem?_append_left hlt]
      exact hj
    | succ i =>
      have h := ih i (by simpa using hi)
      simp only [mkCells, List.flatMap_cons] at h ⊢
      rw [List.getElem?_append_right (by simp [Mk.cells]; omega), show (i + 1) * 3 + j - y.cells.length = i * 3 + j by simp [Mk.cells]; omega]
      exact h
theorem mk_one (l : List Mk) : ∀ u ∈ mkCells l, u.oneCell' = true := by
  intro u hu
  simp only [mkCells, List.mem_flatMap] at hu
  obtain ⟨x, _, hx⟩ := hu
  simp only [Mk.cells, List.mem_cons, List.not_mem_nil, or_false] at hx
  rcases hx with rfl | rfl | rfl <;> rfl
/-- A slice of them that is only read. -/
def InMk (w : World) (a : Option Addr) (n : Nat) (xs : List Mk) : Prop := xs.length = n ∧ (0 < n → ∃ b off, a = some ⟨b, off, none⟩ ∧ b < w.heap.size ∧ ∀ (i j : Nat) x v, xs[i]? = some x → x.cells[j]? = some v → w.cell? ⟨b, off + (i * 3 + j), none⟩ = some v)
theorem InMk.keep {w w' : World} {a : Option Addr} {n : Nat} {xs : List Mk} {fp : Nat → Prop} (h : InMk w a n xs) (c : Ch fp w w') (hn : ∀ b off, a = some ⟨b, off, none⟩ → 0 < n → ¬ fp b) : InMk w' a n xs :=
  ⟨h.1, fun h0 => by
    obtain ⟨b, off, rfl, hb, hc⟩ := h.2 h0
    exact ⟨b, off, rfl, Nat.lt_of_lt_of_le hb c.size, fun i j x v hi hj => (c.cell (p := ⟨b, _, none⟩) hb (hn b off rfl h0)).trans (hc i j x v hi hj)⟩⟩
/-- A slice of them that the call made. -/
def OwnMk (w w' : World) (l : List Mk) (e : Ending) : Prop := ∃ v, e = .returned v ∧ w'.ownsRow w.heap.size 263 3 v l.length (mkCells l) ∧ Ch (fun _ => False) w w'
theorem infoMk : (Tryz.prog.info? 263).map (fun i => (i.zero, i.size, i.bytes)) = some (some (Value.agg #[.int .u32 0, .int .i64 0, .int .u8 0]), 3, 24) := by kernel_rfl
theorem mk_nil_run (w : World) : (binOp .eql 76 (.slice none 0 0) (.slice none 0 0)).run Tryz.prog w = .ok (.bool true) w := by
  simp only [binOp]
  simp [run_equal_slice_nil w 76 263 none 0 0 Tryz.underlying76]
theorem mk_not_nil_run (a : Addr) (n c : Nat) (w : World) : (binOp .eql 76 (.slice (some a) n c) (.slice none 0 0)).run Tryz.prog w = .ok (.bool false) w := by
  simp only [binOp]
  simp [run_equal_slice_nil w 76 263 (some a) n c Tryz.underlying76]
set_option maxRecDepth 100000 in
set_option maxHeartbeats 1000000 in
theorem cloneMarks_any (a : Option Addr) (n ca : Nat) (xs : List Mk) (w : World) (ha : InMk w a n xs) (hn : n < 1000000) (hz : a = none → ca = 0) :
    Calls Tryz.prog 127 #[.slice a n ca] w fun e w' => OwnMk w w' xs e := by
  obtain ⟨i0, hi, hz0, hz1, hz2⟩ := info_parts infoMk
  cases a with
  | none =>
    obtain rfl := hz rfl
    have h0 : n = 0 := by
      rcases Nat.eq_zero_or_pos n with h | h
      · exact h
      · obtain ⟨b, off, hb, _⟩ := ha.2 h
        cases hb
    subst h0
    have hx : xs = [] := List.eq_nil_of_length_eq_zero ha.1
    subst hx
    go_enter Tryz.func127, Tryz.ntmps127
    go_wp2_with fail
    rw [mk_nil_run]
    go_wp2_with fail
    go_ret
    exact ⟨_, rfl, World.ownsRow_nil _ _ _ _, Ch.refl _ _⟩
  | some ad =>
    have hne : (Value.slice (some ad) n ca) ≠ .slice none 0 0 := by intro h; cases h
    go_enter Tryz.func127, Tryz.ntmps127
    go_wp2_with fail
    rw [mk_not_nil_run]
    go_wp2_with (at_builtin; refine wpList_append_own _ rfl (.tmp 5) (.tmp 6) 76 rfl w.heap.size 263 i0 _ 3 24 Tryz.underlying76 hi hz0 hz1 hz2 rfl (by decide) (.slice (some ⟨w.heap.size, 0, none⟩) 0 0) 0 [] rfl (World.ownsRow_made w #[] 0 (Nat.le_refl _) (Nat.zero_le _) rfl) ad n ca (mkCells xs) rfl ?c0 ?c1 ?c2 ?c3 ?c4 ?c5 ?c6)
    case c0 => rw [mkCells_length, ha.1]
    case c1 =>
      intro j u hu
      have hl : j < n * 3 := by have := (List.getElem?_eq_some_iff.1 hu).1; rw [mkCells_length, ha.1] at this; exact this
      obtain ⟨b1, o1, hb, hbl, h1⟩ := ha.2 (by omega)
      injection hb with hb
      subst hb
      rw [addr_add]
      obtain ⟨x, hx⟩ : ∃ x, xs[j / 3]? = some x := ⟨_, List.getElem?_eq_getElem (by rw [ha.1]; omega)⟩
      have hxc : x.cells[j % 3]? = some u := by
        have hm : j % 3 < x.cells.length := by simp [Mk.cells]; omega
        have := mkCells_get xs (j / 3) x hx (j % 3) _ (List.getElem?_eq_getElem hm)
        rw [show j / 3 * 3 + j % 3 = j by omega, hu] at this
        rw [List.getElem?_eq_getElem hm, ← Option.some.inj this]
      have := h1 (j / 3) (j % 3) x u hx hxc
      rw [show j / 3 * 3 + j % 3 = j by omega] at this
      exact (World.cell?_alloc_lt _ _ _ hbl).trans this
    case c2 => exact mk_one xs
    case c3 => unfold maxLen; omega
    case c4 => omega
    case c5 => simp
    case c6 =>
      intro v' w' hown' hgrow _
      have hch' : Ch (fun _ => False) w w' := ((Ch.refl (fun _ => False) w).alloc _).grown hgrow (fun g hg hl => by
        injection hg with hg
        have hg2 : w.heap.size = g := hg
        omega)
      go_wp2_with fail
      go_ret
      first | rw [Nat.zero_add, List.nil_append] at hown' | skip
      exact ⟨_, rfl, by rw [ha.1]; exact hown', hch'⟩
def Pc.cells (x : Pc) : List Value := [.int .u8 x.k, .int .i64 x.n, .string x.s]
def Pc.agg (x : Pc) : Value := .agg #[.int .u8 x.k, .int .i64 x.n, .string x.s]
def pcCells (l : List Pc) : List Value := l.flatMap Pc.cells
theorem pcCells_length (l : List Pc) : (pcCells l).length = l.length * 3 := by
  induction l with
  | nil => rfl
  | cons x l ih => simp only [pcCells, List.flatMap_cons, List.length_append, List.length_cons] at ih ⊢; rw [ih]; simp [Pc.cells]; omega
theorem pcCells_get (l : List Pc) (i : Nat) (x : Pc) (hi : l[i]? = some x) (j : Nat) (v : Value) (hj : x.cells[j]? = some v) : (pcCells l)[i * 3 + j]? = some v := by
  induction l generalizing i with
  | nil => simp at hi
  | cons y l ih =>
    cases i with
    | zero =>
      injection hi with hi
      subst hi
      have hlt : j < y.cells.length := (List.getElem?_eq_some_iff.1 hj).1
      simp only [pcCells, List.flatMap_cons, Nat.zero_mul, Nat.zero_add]
      rw [List.getElem?_append_left hlt]
      exact hj
    | succ i =>
      have h := ih i (by simpa using hi)
      simp only [pcCells, List.flatMap_cons] at h ⊢
      rw [List.getElem?_append_right (by simp [Pc.cells]; omega), show (i + 1) * 3 + j - y.cells.length = i * 3 + j by simp [Pc.cells]; omega]
      exact h
theorem pc_one (l : List Pc) : ∀ u ∈ pcCells l, u.oneCell' = true := by
  intro u hu
  simp only [pcCells, List.mem_flatMap] at hu
  obtain ⟨x, _, hx⟩ := hu
  simp only [Pc.cells, List.mem_cons, List.not_mem_nil, or_false] at hx
  rcases hx with rfl | rfl | rfl <;> rfl
/-- A slice of them that is only read. -/
def InPc (w : World) (a : Option Addr) (n : Nat) (xs : List Pc) : Prop := xs.length = n ∧ (0 < n → ∃ b off, a = some ⟨b, off, none⟩ ∧ b < w.heap.size ∧ ∀ (i j : Nat) x v, xs[i]? = some x → x.cells[j]? = some v → w.cell? ⟨b, off + (i * 3 + j), none⟩ = some v)
theorem InPc.keep {w w' : World} {a : Option Addr} {n : Nat} {xs : List Pc} {fp : Nat → Prop} (h : InPc w a n xs) (c : Ch fp w w') (hn : ∀ b off, a = some ⟨b, off, none⟩ → 0 < n → ¬ fp b) : InPc w' a n xs :=
  ⟨h.1, fun h0 => by
    obtain ⟨b, off, rfl, hb, hc⟩ := h.2 h0
    exact ⟨b, off, rfl, Nat.lt_of_lt_of_le hb c.size, fun i j x v hi hj => (c.cell (p := ⟨b, _, none⟩) hb (hn b off rfl h0)).trans (hc i j x v hi hj)⟩⟩
theorem own_pc {w : World} {B n : Nat} {v : Value} {l : List Pc} (h : w.ownsRow B 128 3 v n (pcCells l)) : ∃ A cap, v = .slice A n cap ∧ n ≤ cap ∧ (A = none → cap = 0) ∧ InPc w A n l := by
  have hl : l.length = n := by have := h.1; rw [pcCells_length] at this; omega
  rcases h.2 with ⟨rfl, hn⟩ | ⟨g, cap, cur, rfl, hB, hg, hnc, _, _, _⟩
  · subst hn
    exact ⟨none, 0, rfl, Nat.le_refl _, fun _ => rfl, hl, fun h0 => absurd h0 (by omega)⟩
  · refine ⟨some ⟨g, 0, none⟩, cap, rfl, hnc, (fun e => by cases e), hl, fun h0 => ⟨g, 0, rfl, (Array.getElem?_eq_some_iff.1 hg).1, fun i j x v hi hj => ?_⟩⟩
    have := h.cells (g := g) rfl (i * 3 + j) v (pcCells_get l i x hi j v hj)
    rw [addr_add0] at this
    rw [Nat.zero_add]; exact this
/-- A slice of them that the call made. -/
def OwnPc (w w' : World) (l : List Pc) (e : Ending) : Prop := ∃ v, e = .returned v ∧ w'.ownsRow w.heap.size 128 3 v l.length (pcCells l) ∧ Ch (fun _ => False) w w'
theorem infoPc : (Tryz.prog.info? 128).map (fun i => (i.zero, i.size, i.bytes)) = some (some (Value.agg #[.int .u8 0, .int .i64 0, .string ⟨#[]⟩]), 3, 32) := by kernel_rfl
theorem pc_neq_run (x : Pc) (w : World) : (binOp .neq 128 x.agg x.agg).run Tryz.prog w = .ok (.bool false) w := by
  unfold Pc.agg
  go_simp
  repeat' split
  all_goals simp_all
theorem exec_pc_neq {o : Oper} {a : Act} {s t : Operand} {ty : TypeId} (ho : o.op = .binOp .neq 128 s t ty) {x : Pc} (hs : a.eval s = x.agg) (ht : a.eval t = x.agg) (W : World) : (execOp a.eval o).run Tryz.prog W = .ok (.value (.bool false)) W := by
  have hr := pc_neq_run x W
  have hg := run_eqGuard_agg (P := Tryz.prog) W .neq 128 s t #[.int .u8 x.k, .int .i64 x.n, .string x.s] #[.int .u8 x.k, .int .i64 x.n, .string x.s] (by kernel_rfl)
  have hg' : (eqGuard .neq 128 s t x.agg x.agg).run Tryz.prog W = .ok () W := hg
  simp [execOp, ho, hs, ht, hr, hg']
set_option maxHeartbeats 1000000 in
theorem eqPieces_any (a b : Option Addr) (n ca cb : Nat) (xs : List Pc) (w : World) (ha : InPc w a n xs) (hb : InPc w b n xs) (hn : n < 1000000) :
    Calls Tryz.prog 45 #[.slice a n ca, .slice b n cb] w fun e w' => e = .returned (.bool true) ∧ ∃ k, w' = w.drewN k := by
  have hne : ((n : Int) != (n : Int)) = false := by simp
  go_enter Tryz.func45, Tryz.ntmps45
  go_wp2_with fail
  go_loopw [5] (fun i wr => ∃ k : Nat, k ≤ n ∧ i = .int .i64 k ∧ ∃ d, wr = w.drewN d) (fun i _ => n - (intOf i).toNat)
  case atStart => exact ⟨0, Nat.zero_le _, rfl, 0, rfl⟩
  case round =>
    obtain ⟨k, hk, rfl, d, rfl⟩ := hrel
    by_cases hlt : k < n
    · obtain ⟨b1, o1, rfl, _, h1⟩ := ha.2 (by omega)
      obtain ⟨b2, o2, rfl, _, h2⟩ := hb.2 (by omega)
      obtain ⟨x, hx⟩ : ∃ x, xs[k]? = some x := ⟨_, List.getElem?_eq_getElem (by have := ha.1; omega)⟩
      have c0 : w.cell? ⟨b1, o1 + k * 3, none⟩ = some (.int .u8 x.k) := h1 k 0 x _ hx rfl
      have c1 : w.cell? ⟨b1, o1 + k * 3 + 1, none⟩ = some (.int .i64 x.n) := h1 k 1 x _ hx rfl
      have c2 : w.cell? ⟨b1, o1 + k * 3 + 2, none⟩ = some (.string x.s) := h1 k 2 x _ hx rfl
      have e0 : w.cell? ⟨b2, o2 + k * 3, none⟩ = some (.int .u8 x.k) := h2 k 0 x _ hx rfl
      have e1 : w.cell? ⟨b2, o2 + k * 3 + 1, none⟩ = some (.int .i64 x.n) := h2 k 1 x _ hx rfl
      have e2 : w.cell? ⟨b2, o2 + k * 3 + 2, none⟩ = some (.string x.s) := h2 k 2 x _ hx rfl
      clear h1 h2 hx
      go_wp2_with fail
      refine Mix.wp_region_mix (fun _ => True) (fun i => ([0, 0, 0, 0, 0, 0, 0, 0, 0] : List Nat).getD i 0) [0, 1, 2, 3, 4, 5, 6, 7, 8] (by kernel_rfl) (by kernel_rfl) ?_
      iterate 8 (refine Mix.mix_q (by simp only [List.getElem?_toArray, List.getElem?_cons_zero, List.getElem?_cons_succ]; exact rfl) rfl ?_; go_big_quiet_step (fail); refine wpQuiet_nil ?_)
      refine Mix.mix_v (by simp only [List.getElem?_toArray, List.getElem?_cons_zero, List.getElem?_cons_succ]; exact rfl) rfl (.bool false) rfl (fun W _ => by rw [exec_pc_neq (x := x) rfl rfl rfl W]) ?_
      simp only [Act.put, List.setIfInBounds_toArray, List.set_cons_succ, List.set_cons_zero]
      intro n1
      go_wp2_with fail
      go_roundw
      case rel => exact ⟨k + 1, by omega, by go_num, _, rfl⟩
      case measure => simp [intOf]; omega
    · obtain rfl : k = n := by omega
      go_wp2_with fail
      go_ret
      exact ⟨rfl, _, rfl⟩
theorem pc_nil_run (w : World) : (binOp .eql 77 (.slice none 0 0) (.slice none 0 0)).run Tryz.prog w = .ok (.bool true) w := by
  simp only [binOp]
  simp [run_equal_slice_nil w 77 128 none 0 0 Tryz.underlying77]
theorem pc_not_nil_run (a : Addr) (n c : Nat) (w : World) : (binOp .eql 77 (.slice (some a) n c) (.slice none 0 0)).run Tryz.prog w = .ok (.bool false) w := by
  simp only [binOp]
  simp [run_equal_slice_nil w 77 128 (some a) n c Tryz.underlying77]
set_option maxRecDepth 100000 in
set_option maxHeartbeats 1000000 in
theorem clonePieces_any (a : Option Addr) (n ca : Nat) (xs : List Pc) (w : World) (ha : InPc w a n xs) (hn : n < 1000000) (hz : a = none → ca = 0) :
    Calls Tryz.prog 128 #[.slice a n ca] w fun e w' => OwnPc w w' xs e := by
  obtain ⟨i0, hi, hz0, hz1, hz2⟩ := info_parts infoPc
  cases a with
  | none =>
    obtain rfl := hz rfl
    have h0 : n = 0 := by
      rcases Nat.eq_zero_or_pos n with h | h
      · exact h
      · obtain ⟨b, off, hb, _⟩ := ha.2 h
        cases hb
    subst h0
    have hx : xs = [] := List.eq_nil_of_length_eq_zero ha.1
    subst hx
    go_enter Tryz.func128, Tryz.ntmps128
    go_wp2_with fail
    rw [pc_nil_run]
    go_wp2_with fail
    go_ret
    exact ⟨_, rfl, World.ownsRow_nil _ _ _ _, Ch.refl _ _⟩
  | some ad =>
    have hne : (Value.slice (some ad) n ca) ≠ .slice none 0 0 := by intro h; cases h
    go_enter Tryz.func128, Tryz.ntmps128
    go_wp2_with fail
    rw [pc_not_nil_run]
    go_wp2_with (at_builtin; refine wpList_append_own _ rfl (.tmp 5) (.tmp 6) 77 rfl w.heap.size 128 i0 _ 3 32 Tryz.underlying77 hi hz0 hz1 hz2 rfl (by decide) (.slice (some ⟨w.heap.size, 0, none⟩) 0 0) 0 [] rfl (World.ownsRow_made w #[] 0 (Nat.le_refl _) (Nat.zero_le _) rfl) ad n ca (pcCells xs) rfl ?c0 ?c1 ?c2 ?c3 ?c4 ?c5 ?c6)
    case c0 => rw [pcCells_length, ha.1]
    case c1 =>
      intro j u hu
      have hl : j < n * 3 := by have := (List.getElem?_eq_some_iff.1 hu).1; rw [pcCells_length, ha.1] at this; exact this
      obtain ⟨b1, o1, hb, hbl, h1⟩ := ha.2 (by omega)
      injection hb with hb
      subst hb
      rw [addr_add]
      obtain ⟨x, hx⟩ : ∃ x, xs[j / 3]? = some x := ⟨_, List.getElem?_eq_getElem (by rw [ha.1]; omega)⟩
      have hxc : x.cells[j % 3]? = some u := by
        have hm : j % 3 < x.cells.length := by simp [Pc.cells]; omega
        have := pcCells_get xs (j / 3) x hx (j % 3) _ (List.getElem?_eq_getElem hm)
        rw [show j / 3 * 3 + j % 3 = j by omega, hu] at this
        rw [List.getElem?_eq_getElem hm, ← Option.some.inj this]
      have := h1 (j / 3) (j % 3) x u hx hxc
      rw [show j / 3 * 3 + j % 3 = j by omega] at this
      exact (World.cell?_alloc_lt _ _ _ hbl).trans this
    case c2 => exact pc_one xs
    case c3 => unfold maxLen; omega
    case c4 => omega
    case c5 => simp
    case c6 =>
      intro v' w' hown' hgrow _
      have hch' : Ch (fun _ => False) w w' := ((Ch.refl (fun _ => False) w).alloc _).grown hgrow (fun g hg hl => by
        injection hg with hg
        have hg2 : w.heap.size = g := hg
        omega)
      go_wp2_with fail
      go_ret
      first | rw [Nat.zero_add, List.nil_append] at hown' | skip
      exact ⟨_, rfl, by rw [ha.1]; exact hown', hch'⟩
end Go.Proofs.YtefpabicgefciaaGreat
namespace Go.Proofs.YtefpabicgefciaaGreat
open Go.RowKit
set_option linter.unusedVariables false
set_option linter.unusedSimpArgs false
set_option linter.unusedSectionVars false
namespace Dl
def nos : ByteArray := ⟨#[]⟩
def bytes (x : Pc) : List UInt8 := x.s.data.toList
def neg (b : UInt8) : Int := -1 - (b.toNat : Int)
/-- A piece is valid. -/
def Ok (x : Pc) : Prop := ((x.k = 1 ∨ x.k = 3) ∧ 1 ≤ x.n ∧ x.s.size = 0) ∨ (x.k = 2 ∧ x.n = 0 ∧ x.s.size ≠ 0)
def inn (x : Pc) : Int := x.n
def oun (x : Pc) : Int := (if x.k = 1 then x.n else 0) + x.s.size
def inl : List Pc → Int
  | [] => 0
  | x :: d => inn x + inl d
def oul : List Pc → Int
  | [] => 0
  | x :: d => oun x + oul d
def OkL (d : List Pc) : Prop := ∀ x ∈ d, Ok x
theorem size_list (s : ByteArray) : s.data.toList.length = s.size := Array.length_toList
theorem bytes_nil {x : Pc} (h : x.s.size = 0) : bytes x = [] := List.eq_nil_of_length_eq_zero (by rw [bytes, size_list, h])
theorem Ok.inn0 {x : Pc} (h : Ok x) : 0 ≤ inn x := by
  unfold inn
  rcases h with ⟨_, h, _⟩ | ⟨_, h, _⟩ <;> omega
theorem Ok.oun0 {x : Pc} (h : Ok x) : 0 ≤ oun x := by
  unfold oun
  rcases h with ⟨_, h, _⟩ | ⟨_, h, _⟩ <;> split <;> omega
theorem inl_nn : ∀ {d : List Pc}, OkL d → 0 ≤ inl d
  | [], _ => Int.le_refl 0
  | x :: d, h => by
    have h1 := (h x (by simp)).inn0
    have h2 := inl_nn (fun y hy => h y (by simp [hy]) : OkL d)
    unfold inl; omega
theorem oul_nn : ∀ {d : List Pc}, OkL d → 0 ≤ oul d
  | [], _ => Int.le_refl 0
  | x :: d, h => by
    have h1 := (h x (by simp)).oun0
    have h2 := oul_nn (fun y hy => h y (by simp [hy]) : OkL d)
    unfold oul; omega
theorem OkL.cons {x : Pc} {d : List Pc} (h : OkL (x :: d)) : Ok x ∧ OkL d := ⟨h x (by simp), fun y hy => h y (by simp [hy])⟩
theorem OkL.mk {x : Pc} {d : List Pc} (h : Ok x) (h2 : OkL d) : OkL (x :: d) := fun y hy => by
  rcases List.mem_cons.1 hy with rfl | hy
  · exact h
  · exact h2 y hy
theorem OkL.app {a b : List Pc} (h : OkL a) (h2 : OkL b) : OkL (a ++ b) := fun y hy => by
  rcases List.mem_append.1 hy with hy | hy
  · exact h y hy
  · exact h2 y hy
theorem inl_app : ∀ (a b : List Pc), inl (a ++ b) = inl a + inl b
  | [], b => by simp [inl]
  | x :: a, b => by simp only [List.cons_append, inl, inl_app a b]; omega
theorem oul_app : ∀ (a b : List Pc), oul (a ++ b) = oul a + oul b
  | [], b => by simp [oul]
  | x :: a, b => by simp only [List.cons_append, oul, oul_app a b]; omega
/-- What is known on the way: the pieces, the text and the number of removed bytes since the last kept byte. -/
structure Fs where
  out : List Pc
  t : List UInt8
  g : Int
def mkS (t : List UInt8) : ByteArray := ⟨t.toArray⟩
def insP (t : List UInt8) : Pc := ⟨2, 0, mkS t⟩
def delP (n : Int) : Pc := ⟨3, n, nos⟩
def retP (n : Int) : Pc := ⟨1, n, nos⟩
def gap (t : List UInt8) (g : Int) : List Pc := (if t = [] then [] else [insP t]) ++ (if 0 < g then [delP g] else [])
def keep (o : List Pc) (n : Int) : List Pc :=
  match o.getLast? with
  | some p => if p.k = 1 then o.dropLast ++ [⟨p.k, p.n + n, p.s⟩] else o ++ [retP n]
  | none => o ++ [retP n]
def fins (st : Fs) (b : List UInt8) : Fs := ⟨st.out, st.t ++ b, st.g⟩
def fdel (st : Fs) (n : Int) : Fs := ⟨st.out, st.t, st.g + n⟩
def fret (st : Fs) (n : Int) : Fs := ⟨keep (st.out ++ gap st.t st.g) n, [], 0⟩
def fstep (st : Fs) (x : Pc) : Fs := if x.k = 2 then fins st (bytes x) else if x.k = 3 then fdel st x.n else fret st x.n
def fend (st : Fs) : List Pc := st.out ++ gap st.t st.g
def fzero : Fs := ⟨[], [], 0⟩
def frun (d : List Pc) (st : Fs) : Fs := d.foldl fstep st
def form (d : List Pc) : List Pc := fend (frun d fzero)
theorem gap_nil : gap [] 0 = [] := by simp [gap]
theorem keep_keep (o : List Pc) (a b : Int) : keep (keep o a) b = keep o (a + b) := by
  cases h : o.getLast? with
  | none => simp [keep, h, retP]
  | some p =>
    by_cases hk : p.k = 1
    · simp [keep, h, hk, Int.add_assoc]
    · simp [keep, h, hk, retP]
theorem fret_fret (st : Fs) (a b : Int) : fret (fret st a) b = fret st (a + b) := by
  simp [fret, gap_nil, keep_keep]
theorem fins_fins (st : Fs) (a b : List UInt8) : fins (fins st a) b = fins st (a ++ b) := by simp [fins]
theorem fdel_fins (st : Fs) (a : List UInt8) (n : Int) : fdel (fins st a) n = fins (fdel st n) a := rfl
theorem fdel_fdel (st : Fs) (a b : Int) : fdel (fdel st a) b = fdel st (a + b) := by simp [fdel, Int.add_assoc]
theorem fdel_zero (st : Fs) : fdel st 0 = st := by simp [fdel]
theorem fins_nil (st : Fs) : fins st [] = st := by simp [fins]
def ups (i : Int) : Nat → List Int
  | 0 => []
  | n + 1 => i :: ups (i + 1) n
def atom1 (i : Int) (x : Pc) : List Int := (bytes x).map neg ++ (if x.k = 1 then ups i x.n.toNat else [])
def atoms : Int → List Pc → List Int
  | _, [] => []
  | i, x :: d => atom1 i x ++ atoms (i + x.n) d
/-- The single pieces of a result. -/
def sing : Int → Int → List Int → List Pc
  | at', n, [] => if at' < n then [delP (n - at')] else []
  | at', n, a :: l => if a < 0 then insP [UInt8.ofNat (-1 - a).toNat] :: sing at' n l else (if at' < a then [delP (a - at')] else []) ++ retP 1 :: sing (a + 1) n l
/-- The normal form with an input length and a result. -/
def ofA (n : Int) (l : List Int) : List Pc := form (sing 0 n l)
theorem neg_back (b : UInt8) : UInt8.ofNat (-1 - neg b).toNat = b := by
  unfold neg
  rw [show ((-1 : Int) - (-1 - (b.toNat : Int))).toNat = b.toNat by omega]
  simp
theorem neg_lt (b : UInt8) : neg b < 0 := by unfold neg; omega
theorem frun_cons (x : Pc) (d : List Pc) (st : Fs) : frun (x :: d) st = frun d (fstep st x) := rfl
theorem frun_app (a b : List Pc) (st : Fs) : frun (a ++ b) st = frun b (frun a st) := List.foldl_append
theorem step_ins (st : Fs) (t : List UInt8) : fstep st (insP t) = fins st t := by simp [fstep, insP, bytes, mkS]
theorem step_del (st : Fs) (n : Int) : fstep st (delP n) = fdel st n := by simp [fstep, delP]
theorem step_ret (st : Fs) (n : Int) : fstep st (retP n) = fret st n := by simp [fstep, retP]
theorem sing_ins (st : Fs) (at' n : Int) : ∀ (b : List UInt8) (l : List Int) (st : Fs), frun (sing at' n (b.map neg ++ l)) st = frun (sing at' n l) (fins st b)
  | [], l, st => by simp [fins_nil]
  | x :: b, l, st => by
    simp only [List.map_cons, List.cons_append, sing]
    rw [if_pos (neg_lt x), neg_back, frun_cons, step_ins, sing_ins st at' n b l, fins_fins]
    rfl
theorem sing_del (at' n i : Int) (h : at' ≤ i) (m : Nat) (l : List Int) (st : Fs) (hi : 0 ≤ i) : frun (sing at' n (ups i (m + 1) ++ l)) st = frun (sing (i + 1) n (ups (i + 1) m ++ l)) (fret (fdel st (i - at')) 1) := by
  simp only [ups, List.cons_append, sing]
  rw [if_neg (by omega)]
  by_cases e : at' < i
  · rw [if_pos e, List.singleton_append, frun_cons, step_del, frun_cons, step_ret]
  · rw [if_neg e, List.nil_append, frun_cons, step_ret, show i - at' = 0 by omega, fdel_zero]
theorem sing_ups : ∀ (m : Nat) (n i : Int) (l : List Int) (st : Fs) (k : Int), 0 ≤ i → frun (sing i n (ups i m ++ l)) (fret st k) = frun (sing (i + m) n l) (fret st (k + m))
  | 0, n, i, l, st, k, _ => by simp [ups]
  | m + 1, n, i, l, st, k, hi => by
    rw [sing_del i n i (Int.le_refl i) m l _ hi, Int.sub_self, fdel_zero, fret_fret, sing_ups m n (i + 1) l st (k + 1) (by omega)]
    rw [show i + 1 + (m : Int) = i + ((m + 1 : Nat) : Int) by push_cast; omega, show k + 1 + (m : Int) = k + ((m + 1 : Nat) : Int) by push_cast; omega]
theorem fend_del (st : Fs) (n at' : Int) (h : at' ≤ n) : fend (frun (sing at' n []) st) = fend (fdel st (n - at')) := by
  unfold sing
  by_cases e : at' < n
  · rw [if_pos e, frun_cons, step_del]; rfl
  · rw [if_neg e, show n - at' = 0 by omega, fdel_zero]; rfl
/-- The state behind pieces is the one behind their result's single pieces. -/
theorem run_sing : ∀ (d : List Pc) (at' i : Int) (st : Fs), OkL d → at' ≤ i → 0 ≤ i → fend (frun d (fdel st (i - at'))) = fend (frun (sing at' (i + inl d) (atoms i d)) st)
  | [], at', i, st, _, h, _ => by
    simp only [inl, atoms, Int.add_zero]
    rw [fend_del st i at' h]; rfl
  | x :: d, at', i, st, hok, h, hi => by
    obtain ⟨hx, hd⟩ := hok.cons
    have hn := hx.inn0
    unfold inn at hn
    have hl : i + inl (x :: d) = i + x.n + inl d := by simp only [inl, inn]; omega
    rw [hl]
    simp only [atoms, atom1, frun_cons, List.append_assoc]
    rcases hx with ⟨h1 | h3, h4, h5⟩ | ⟨h2, h4, _⟩
    · -- kept
      obtain ⟨m, hm⟩ : ∃ m : Nat, x.n = (m : Int) + 1 := ⟨(x.n - 1).toNat, by omega⟩
      rw [bytes_nil h5, if_pos h1, hm, show ((m : Int) + 1).toNat = m + 1 by omega, List.map_nil, List.nil_append]
      rw [sing_del at' _ i h m _ st hi, sing_ups m _ (i + 1) _ _ 1 (by omega)]
      rw [show fstep (fdel st (i - at')) x = fret (fdel st (i - at')) ((m : Int) + 1) by simp [fstep, h1, hm]]
      have t := run_sing d (i + (m + 1)) (i + (m + 1)) (fret (fdel st (i - at')) ((m : Int) + 1)) hd (Int.le_refl _) (by omega)
      rw [Int.sub_self, fdel_zero] at t
      rw [t, show i + 1 + (m : Int) = i + (m + 1) by omega, show (1 : Int) + m = m + 1 by omega]
    · -- removed
      rw [bytes_nil h5, if_neg (by omega), List.map_nil, List.nil_append, List.nil_append]
      rw [show fstep (fdel st (i - at')) x = fdel st (i + x.n - at') by unfold fstep; rw [if_neg (by omega), if_pos h3, fdel_fdel]; congr 1; omega]
      exact run_sing d at' (i + x.n) st hd (by omega) (by omega)
    · -- inserted
      rw [if_neg (by omega), List.nil_append, sing_ins st]
      rw [show fstep (fdel st (i - at')) x = fdel (fins st (bytes x)) (i - at') by simp [fstep, h2, fdel_fins]]
      have t := run_sing d at' i (fins st (bytes x)) hd h hi
      rw [t, h4, Int.add_zero]
theorem form_eq {d : List Pc} (h : OkL d) : form d = ofA (inl d) (atoms 0 d) := by
  have t := run_sing d 0 0 fzero h (Int.le_refl 0) (Int.le_refl 0)
  rw [Int.sub_self, fdel_zero, Int.zero_add] at t
  exact t
def long (x : Pc) : Int := x.n + x.s.size
def cut1 (x : Pc) (n : Int) : Pc := if x.k = 2 then ⟨x.k, x.n, x.s.extract 0 n.toNat⟩ else ⟨x.k, n, x.s⟩
def cut2 (x : Pc) (n : Int) : Pc := if x.k = 2 then ⟨x.k, x.n, x.s.extract n.toNat x.s.size⟩ else ⟨x.k, x.n - n, x.s⟩
/-- A part of the next piece, and what is left. -/
def part (x : Pc) (n : Int) : Pc := if n < long x then cut1 x n else x
def left (x : Pc) (d : List Pc) (n : Int) : List Pc := if n < long x then cut2 x n :: d else d
def both (p q : Pc) : List Pc := if q.k = 1 then [p] else if p.k = 1 then [q] else []
def comp : List Pc → List Pc → List Pc
  | [], [] => []
  | [], y :: b => if y.k = 2 then y :: comp [] b else []
  | x :: a, [] => if x.k = 3 then x :: comp a [] else []
  | x :: a, y :: b => if x.k = 3 then x :: comp a (y :: b) else if y.k = 2 then y :: comp (x :: a) b else
      both (part x (min (long x) (long y))) (part y (min (long x) (long y))) ++ comp (left x a (min (long x) (long y))) (left y b (min (long x) (long y)))
termination_by a b => a.length + b.length
decreasing_by
  all_goals simp only [List.length_cons, List.length_nil, left]
  all_goals first
    | omega
    | (by_cases c1 : min (long x) (long y) < long x <;> by_cases c2 : min (long x) (long y) < long y <;> simp only [c1, c2, if_true, if_false, List.length_cons] <;> omega)
theorem size_extract (s : ByteArray) (i j : Nat) : (s.extract i j).size = min j s.size - i := ByteArray.size_extract
theorem bytes_cut (x : Pc) (n : Int) (h : x.k = 2) : bytes (cut1 x n) = (bytes x).take n.toNat ∧ bytes (cut2 x n) = (bytes x).drop n.toNat := by
  constructor
  · simp [bytes, cut1, h, ByteArray.data_extract]
  · simp only [bytes, cut2, h, if_true, ByteArray.data_extract, Array.toList_extract]
    rw [List.extract_eq_drop_take', show x.s.size = x.s.data.toList.length from (size_list _).symm, List.take_length]
theorem Ok.kind {x : Pc} (h : Ok x) : x.k = 1 ∨ x.k = 2 ∨ x.k = 3 := by rcases h with ⟨h | h, _⟩ | ⟨h, _⟩ <;> simp [h]
theorem Ok.long_pos {x : Pc} (h : Ok x) : 1 ≤ long x := by
  unfold long
  rcases h with ⟨_, h, _⟩ | ⟨_, h, h2⟩ <;> omega
theorem Ok.cut {x : Pc} (h : Ok x) {n : Int} (h1 : 1 ≤ n) (h2 : n < long x) : Ok (cut1 x n) ∧ Ok (cut2 x n) ∧ long (cut1 x n) = n ∧ long (cut2 x n) = long x - n := by
  unfold long at *
  rcases h with ⟨hk, h3, h4⟩ | ⟨hk, h3, h4⟩
  · have e : x.k ≠ 2 := by omega
    simp only [cut1, cut2, if_neg e]
    exact ⟨.inl ⟨hk, h1, h4⟩, .inl ⟨hk, by show 1 ≤ x.n - n; omega, h4⟩, by show n + (x.s.size : Int) = n; omega, by show x.n - n + (x.s.size : Int) = _; omega⟩
  · simp only [cut1, cut2, if_pos hk]
    have e1 : (x.s.extract 0 n.toNat).size = n.toNat := by rw [size_extract]; omega
    have e2 : (x.s.extract n.toNat x.s.size).size = x.s.size - n.toNat := by rw [size_extract]; omega
    exact ⟨.inr ⟨hk, h3, by show (x.s.extract 0 n.toNat).size ≠ 0; omega⟩, .inr ⟨hk, h3, by show (x.s.extract n.toNat x.s.size).size ≠ 0; omega⟩, by rw [e1]; omega, by rw [e2]; omega⟩
theorem ups_len : ∀ (n : Nat) (i : Int), (ups i n).length = n
  | 0, _ => rfl
  | n + 1, i => by simp [ups, ups_len n]
theorem ups_add : ∀ (n m : Nat) (i : Int), ups i (n + m) = ups i n ++ ups (i + n) m
  | 0, m, i => by simp [ups]
  | n + 1, m, i => by
    rw [show n + 1 + m = (n + m) + 1 by omega]
    simp only [ups, ups_add n m (i + 1), List.cons_append]
    rw [show i + 1 + (n : Int) = i + ((n + 1 : Nat) : Int) by push_cast; omega]
theorem ups_at : ∀ (n : Nat) (i : Int) (j : Nat), j < n → (ups i n)[j]? = some (i + j)
  | 0, _, _, h => absurd h (Nat.not_lt_zero _)
  | n + 1, i, 0, _ => by simp [ups]
  | n + 1, i, j + 1, h => by
    simp only [ups, List.getElem?_cons_succ]
    rw [ups_at n (i + 1) j (by omega)]
    congr 1
    push_cast
    omega
/-- A result seen through another one. -/
def see (A : List Int) (x : Int) : Int := if x < 0 then x else (A[x.toNat]?).getD 0
theorem see_neg (A : List Int) (b : UInt8) : see A (neg b) = neg b := by unfold see; rw [if_pos (neg_lt b)]
theorem see_negs (A : List Int) (l : List UInt8) : (l.map neg).map (see A) = l.map neg := by
  rw [List.map_map]
  exact List.map_congr_left fun b _ => see_neg A b
/-- The indices moved. -/
def mv (m : Int) (x : Int) : Int := if x < 0 then x else x + m
theorem mv_neg (m : Int) (l : List UInt8) : (l.map neg).map (mv m) = l.map neg := by
  rw [List.map_map]
  exact List.map_congr_left fun b _ => by simp [mv, neg_lt]
theorem mv_ups (m : Int) : ∀ (n : Nat) (i : Int), 0 ≤ i → (ups i n).map (mv m) = ups (i + m) n
  | 0, _, _ => rfl
  | n + 1, i, h => by
    simp only [ups, List.map_cons, mv_ups m n (i + 1) (by omega)]
    rw [show i + 1 + m = i + m + 1 by omega]
    simp [mv, show ¬ i < 0 by omega]
theorem atoms_mv (m : Int) : ∀ (d : List Pc) (i : Int), OkL d → 0 ≤ i → (atoms i d).map (mv m) = atoms (i + m) d
  | [], _, _, _ => rfl
  | x :: d, i, h, hi => by
    have h1 := h.cons.1.inn0
    unfold inn at h1
    simp only [atoms, atom1, List.map_append, mv_neg, atoms_mv m d (i + x.n) h.cons.2 (by omega)]
    rw [show i + x.n + m = i + m + x.n by omega]
    congr 2
    split
    · exact mv_ups m _ i hi
    · rfl
theorem see_app (A B : List Int) (x : Int) (h : 0 ≤ x) : see (A ++ B) (mv A.length x) = see B x := by
  have e : ¬ x < 0 := by omega
  unfold see mv
  rw [if_neg e, if_neg e, if_neg (by omega), List.getElem?_append_right (by omega), show (x + (A.length : Int)).toNat - A.length = x.toNat by omega]
theorem see_mv (A B l : List Int) : (l.map (mv A.length)).map (see (A ++ B)) = l.map (see B) := by
  rw [List.map_map]
  refine List.map_congr_left fun x _ => ?_
  by_cases h : x < 0
  · simp [see, mv, h]
  · exact see_app A B x (by omega)
theorem see_atoms (A B : List Int) {d : List Pc} (h : OkL d) {m : Int} (hm : (A.length : Int) = m) : (atoms m d).map (see (A ++ B)) = (atoms 0 d).map (see B) := by
  rw [← see_mv A B, hm, atoms_mv m d 0 h (Int.le_refl 0), Int.zero_add]
theorem see_ups (A B : List Int) : (ups 0 A.length).map (see (A ++ B)) = A := by
  refine List.ext_getElem? fun j => ?_
  rw [List.getElem?_map]
  by_cases h : j < A.length
  · rw [ups_at _ _ _ h, List.getElem?_eq_getElem h]
    simp only [Option.map_some, see]
    rw [if_neg (by omega), show ((0 : Int) + (j : Int)).toNat = j by omega, List.getElem?_append_left h, List.getElem?_eq_getElem h]
    rfl
  · rw [List.getElem?_eq_none (by rw [ups_len]; omega), List.getElem?_eq_none (by omega)]
    rfl
theorem atom1_len {x : Pc} (h : Ok x) (i : Int) : ((atom1 i x).length : Int) = oun x := by
  unfold atom1 oun
  rw [List.length_append, List.length_map, show (bytes x).length = x.s.size from size_list x.s]
  split
  · rw [ups_len]
    have := h.inn0
    unfold inn at this
    omega
  · simp
theorem atoms_len : ∀ {d : List Pc} (i : Int), OkL d → ((atoms i d).length : Int) = oul d
  | [], _, _ => rfl
  | x :: d, i, h => by
    simp only [atoms, oul, List.length_append]
    have h1 := atom1_len h.cons.1 i
    have h2 := atoms_len (i + x.n) h.cons.2
    omega
theorem atom1_cut {x : Pc} (h : Ok x) {n : Int} (h1 : 1 ≤ n) (h2 : n < long x) (i : Int) : atom1 i x = atom1 i (cut1 x n) ++ atom1 (i + (cut1 x n).n) (cut2 x n) := by
  unfold long at h2
  rcases h with ⟨hk, h3, h4⟩ | ⟨hk, h3, h4⟩
  · have e : x.k ≠ 2 := by omega
    have e1 : bytes (cut1 x n) = [] := bytes_nil (by simp [cut1, e, h4])
    have e2 : bytes (cut2 x n) = [] := bytes_nil (by simp [cut2, e, h4])
    unfold atom1
    rw [bytes_nil h4, e1, e2]
    simp only [cut1, cut2, if_neg e, List.map_nil, List.nil_append]
    split
    · obtain ⟨a, rfl⟩ : ∃ a : Nat, n = a := ⟨n.toNat, by omega⟩
      rw [show x.n.toNat = a + (x.n - a).toNat by omega, ups_add, Int.toNat_natCast]
    · rfl
  · obtain ⟨e1, e2⟩ := bytes_cut x n hk
    unfold atom1
    rw [e1, e2]
    simp only [cut1, cut2, if_pos hk]
    have e : ¬ x.k = 1 := by omega
    simp only [if_neg e, List.append_nil]
    rw [← List.map_append, List.take_append_drop]
theorem inn_cut {x : Pc} (h : Ok x) (n : Int) : (cut1 x n).n + (cut2 x n).n = x.n := by
  rcases h with ⟨hk, h3, h4⟩ | ⟨hk, h3, h4⟩
  · have e : x.k ≠ 2 := by omega
    simp only [cut1, cut2, if_neg e]
    omega
  · simp only [cut1, cut2, if_pos hk]
    omega
theorem part_spec {x : Pc} {d : List Pc} (h : Ok x) (hd : OkL d) {n : Int} (h1 : 1 ≤ n) (h2 : n ≤ long x) (i : Int) :
    Ok (part x n) ∧ OkL (left x d n) ∧ (part x n).k = x.k ∧ long (part x n) = n ∧ atoms i (x :: d) = atom1 i (part x n) ++ atoms (i + (part x n).n) (left x d n) ∧ (part x n).n + inl (left x d n) = inl (x :: d) := by
  unfold part left
  by_cases e : n < long x
  · obtain ⟨o1, o2, o3, o4⟩ := h.cut h1 e
    have := inn_cut h n
    simp only [if_pos e]
    refine ⟨o1, OkL.mk o2 hd, by unfold cut1; split <;> rfl, o3, ?_, ?_⟩
    · simp only [atoms]
      rw [atom1_cut h h1 e i, List.append_assoc, show i + x.n = i + (cut1 x n).n + (cut2 x n).n by omega]
    · simp only [inl, inn]
      omega
  · simp only [if_neg e]
    exact ⟨h, hd, trivial, by omega, rfl, rfl⟩
theorem part_ret {x : Pc} (h : Ok x) (h1 : x.k = 1) : long x = x.n ∧ oun x = x.n ∧ x.s.size = 0 := by
  unfold long oun
  rcases h with ⟨_, _, h⟩ | ⟨h, _⟩
  · rw [if_pos h1]; omega
  · omega
theorem comp_spec : ∀ (N : Nat) (a b : List Pc) (i : Int), a.length + b.length ≤ N → OkL a → OkL b → oul a = inl b → 0 ≤ i → OkL (comp a b) ∧ atoms i (comp a b) = (atoms 0 b).map (see (atoms i a)) ∧ inl (comp a b) = inl a := by
  intro N
  induction N with
  | zero =>
    intro a b i hN ha hb h hi
    have e1 : a = [] := List.eq_nil_of_length_eq_zero (by omega)
    have e2 : b = [] := List.eq_nil_of_length_eq_zero (by omega)
    subst e1 e2
    rw [comp]
    exact ⟨ha, rfl, rfl⟩
  | succ N ih =>
    intro a b i hN ha hb h hi
    match a, b with
    | [], [] => rw [comp]; exact ⟨ha, rfl, rfl⟩
    | [], y :: b =>
      obtain ⟨hy, hb'⟩ := hb.cons
      have y0 := hy.inn0
      have b0 := inl_nn hb'
      simp only [oul, inl] at h
      rw [comp]
      by_cases e : y.k = 2
      · rw [if_pos e]
        have hn : y.n = 0 := by rcases hy with ⟨_, _⟩ | ⟨_, h, _⟩ <;> omega
        obtain ⟨o1, o2, o3⟩ := ih [] b i (by simp at hN ⊢; omega) ha hb' (by simp only [oul]; unfold inn at *; omega) hi
        refine ⟨OkL.mk hy o1, ?_, ?_⟩
        · have q1 : atoms i (y :: comp [] b) = (bytes y).map neg ++ atoms i (comp [] b) := by simp [atoms, atom1, e, hn]
          have q2 : atoms 0 (y :: b) = (bytes y).map neg ++ atoms 0 b := by simp [atoms, atom1, e, hn]
          rw [q1, q2, o2, List.map_append, see_negs]
        · simp only [inl, inn, hn, o3]
          rfl
      · exfalso
        rcases hy with ⟨_, h2, _⟩ | ⟨h2, _⟩
        · unfold inn at h; omega
        · exact e h2
    | x :: a, [] =>
      obtain ⟨hx, ha'⟩ := ha.cons
      have x0 := hx.oun0
      have a0 := oul_nn ha'
      simp only [oul, inl] at h
      rw [comp]
      by_cases e : x.k = 3
      · rw [if_pos e]
        obtain ⟨o1, o2, o3⟩ := ih a [] (i + x.n) (by simp at hN ⊢; omega) ha' hb (by simp only [inl]; omega) (by have := hx.inn0; unfold inn at this; omega)
        refine ⟨OkL.mk hx o1, ?_, ?_⟩
        · have hs : x.s.size = 0 := by rcases hx with ⟨_, _, h⟩ | ⟨h, _⟩ <;> omega
          simp only [atoms, atom1, o2, bytes_nil hs, if_neg (show ¬ x.k = 1 by omega)]
          rfl
        · simp only [inl, o3]
      · exfalso
        have : 1 ≤ oun x := by
          unfold oun
          rcases hx with ⟨h1, h2, _⟩ | ⟨h1, h2, h3⟩
          · rw [if_pos (by omega)]; omega
          · rw [if_neg (by omega)]; omega
        omega
    | x :: a, y :: b =>
      obtain ⟨hx, ha'⟩ := ha.cons
      obtain ⟨hy, hb'⟩ := hb.cons
      simp only [List.length_cons] at hN
      rw [comp]
      by_cases e : x.k = 3
      · rw [if_pos e]
        have hs : x.s.size = 0 := by rcases hx with ⟨_, _, h⟩ | ⟨h, _⟩ <;> omega
        have ho : oun x = 0 := by unfold oun; rw [if_neg (by omega)]; omega
        obtain ⟨o1, o2, o3⟩ := ih a (y :: b) (i + x.n) (by simp; omega) ha' hb (by simp only [oul, inl] at h ⊢; omega) (by have := hx.inn0; unfold inn at this; omega)
        refine ⟨OkL.mk hx o1, ?_, ?_⟩
        · rw [show atoms i (x :: a) = atoms (i + x.n) a by simp [atoms, atom1, bytes_nil hs, e]]
          rw [← o2]
          simp [atoms, atom1, bytes_nil hs, e]
        · simp only [inl, o3]
      · rw [if_neg e]
        by_cases e2 : y.k = 2
        · rw [if_pos e2]
          have hn : y.n = 0 := by rcases hy with ⟨_, _⟩ | ⟨_, h, _⟩ <;> omega
          obtain ⟨o1, o2, o3⟩ := ih (x :: a) b i (by simp; omega) ha hb' (by simp only [oul, inl, inn] at h ⊢; omega) hi
          refine ⟨OkL.mk hy o1, ?_, ?_⟩
          · have q1 : atoms i (y :: comp (x :: a) b) = (bytes y).map neg ++ atoms i (comp (x :: a) b) := by simp [atoms, atom1, e2, hn]
            have q2 : atoms 0 (y :: b) = (bytes y).map neg ++ atoms 0 b := by simp [atoms, atom1, e2, hn]
            rw [q1, q2, o2, List.map_append, see_negs]
          · rw [← o3]
            simp only [inl, inn, hn, Int.zero_add]
        · rw [if_neg e2]
          have lx := hx.long_pos
          have ly := hy.long_pos
          obtain ⟨n, hn⟩ : ∃ n, n = min (long x) (long y) := ⟨_, rfl⟩
          rw [← hn]
          have n1 : 1 ≤ n := by omega
          obtain ⟨p1, p2, p3, p4, p5, p6⟩ := part_spec hx ha' n1 (by omega) i
          obtain ⟨q1, q2, q3, q4, q5, q6⟩ := part_spec hy hb' n1 (by omega) 0
          have hlen : (left x a n).length + (left y b n).length ≤ N := by
            unfold left
            by_cases c1 : n < long x <;> by_cases c2 : n < long y <;> simp only [c1, c2, if_true, if_false, List.length_cons] <;> omega
          have oux : oun (part x n) = n := by
            unfold oun long at *
            rcases p1 with ⟨h1, h2, h3⟩ | ⟨h1, h2, h3⟩
            · rw [if_pos (by omega)]; omega
            · rw [if_neg (by omega)]; omega
          have iny : inn (part y n) = n := by
            unfold inn long at *
            rcases q1 with ⟨h1, h2, h3⟩ | ⟨h1, h2, h3⟩
            · omega
            · omega
          have hal := atom1_len p1 i
          rw [oux] at hal
          have hol : oul (x :: a) = n + oul (left x a n) := by
            have t1 := atoms_len i ha
            have t2 := atoms_len (i + (part x n).n) p2
            rw [p5, List.length_append] at t1
            push_cast at t1
            omega
          have x0 := p1.inn0
          unfold inn at x0 iny
          obtain ⟨o1, o2, o3⟩ := ih (left x a n) (left y b n) (i + (part x n).n) hlen p2 q2 (by omega) (by omega)
          have tail : (atoms (0 + (part y n).n) (left y b n)).map (see (atom1 i (part x n) ++ atoms (i + (part x n).n) (left x a n))) = atoms (i + (part x n).n) (comp (left x a n) (left y b n)) := by
            rw [Int.zero_add, iny, see_atoms _ _ q2 hal, o2]
          have sy : (part y n).s.size = 0 := by
            rcases q1 with ⟨_, _, h⟩ | ⟨h, _⟩
            · exact h
            · omega
          have head : atom1 0 (part y n) = if (part y n).k = 1 then ups 0 (atom1 i (part x n)).length else [] := by
            unfold atom1
            rw [bytes_nil sy]
            split
            · simp only [List.map_nil, List.nil_append]
              congr 1
              unfold atom1 at hal
              omega
            · rfl
          rw [p5, q5, List.map_append, tail, head]
          unfold both
          by_cases f1 : (part y n).k = 1
          · rw [if_pos f1, if_pos f1, see_ups]
            refine ⟨OkL.app (OkL.mk p1 (fun _ h => by simp at h)) o1, by simp [atoms], ?_⟩
            rw [← p6, inl_app, o3]
            simp [inl, inn]
          · rw [if_neg f1, if_neg f1]
            by_cases f2 : (part x n).k = 1
            · rw [if_pos f2]
              obtain ⟨r1, _, _⟩ := part_ret p1 f2
              have e3 : (part y n).n = (part x n).n := by omega
              refine ⟨OkL.app (OkL.mk q1 (fun _ h => by simp at h)) o1, ?_, ?_⟩
              · simp only [List.singleton_append, atoms, atom1, bytes_nil sy, if_neg f1, e3]
                rfl
              · rw [← p6, inl_app, o3]
                simp [inl, inn, e3]
            · rw [if_neg f2]
              have e3 : (part x n).n = 0 := by
                rcases p1 with ⟨h, _⟩ | ⟨_, h, _⟩
                · omega
                · exact h
              refine ⟨o1, ?_, ?_⟩
              · rw [e3, Int.add_zero]
                rfl
              · rw [← p6, e3, List.nil_append, o3, Int.zero_add]
end Dl
end Go.Proofs.YtefpabicgefciaaGreat
