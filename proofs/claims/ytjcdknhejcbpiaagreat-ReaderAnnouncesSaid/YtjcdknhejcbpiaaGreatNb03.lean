/- Lemmas that the proof of the last text leans on; no condition. -/
import Derived.Test.YtjcdknhejcbpiaaGreatProg
import Derived.Test.YtjcdknhejcbpiaaGreatNb01
import Derived.Test.YtjcdknhejcbpiaaGreatNb02
import Derived.Laws.StructEq
import Derived.Laws.Cover3
namespace Go.Proofs.YtjcdknhejcbpiaaGreat
open Go.RowKit
set_option linter.unusedVariables false
set_option linter.unusedSimpArgs false
set_option linter.unusedSectionVars false
structure Mk where
  id : Int
  at' : Int
  g : Int
structure Pc where
  k : Int
  n : Int
  s : ByteArray
def Mk.cells (x : Mk) : List Value := [.int .u32 x.id, .int .i64 x.at', .int .u8 x.g]
def mkCells (l : List Mk) : List Value := l.flatMap Mk.cells
theorem mkCells_snoc (l : List Mk) (x : Mk) : mkCells (l ++ [x]) = mkCells l ++ x.cells := by simp [mkCells]
theorem mkCells_length (l : List Mk) : (mkCells l).length = l.length * 3 := by
  induction l with
  | nil => rfl
  | cons x l ih => simp only [mkCells, List.flatMap_cons, List.length_append, List.length_cons] at ih ⊢; rw [ih]; simp [Mk.cells]; omega
theorem mkCells_get (l : List Mk) (i : Nat) (x : Mk) (hi : l[i]? = some x) (j : Nat) (v : Value) (hj : x.cells[j]? = some v) : (mkCells l)[i * 3 + j]? = some v := by
  induction l generalizing i with
  | nil => simp at hi
  | cons y l ih =>
    cases i with
    | zero =>
      injection hi with hi
      subst hi
      have hlt : j < y.cells.length := (List.getElem?_eq_some_iff.1 hj).1
      simp only [mkCells, List.flatMap_cons, Nat.zero_mul, Nat.zero_add]
      rw [List.getElem?_append_left hlt]
      exact hj
    | succ i =>
      have h := ih i (by simpa using hi)
      simp only [mkCells, List.flatMap_cons] at h ⊢
      rw [List.getElem?_append_right (by simp [Mk.cells]; omega), show (i + 1) * 3 + j - y.cells.length = i * 3 + j by simp [Mk.cells]; omega]
      exact h
theorem mk_one (l : List Mk) : ∀ u ∈ mkCells l, u.oneCell' = true := by
  intro u hu
  simp only [mkCells, List.mem_flatMap] at hu
  obtain ⟨x, _, hx⟩ := hu
  simp only [Mk.cells, List.mem_cons, List.not_mem_nil, or_false] at hx
  rcases hx with rfl | rfl | rfl <;> rfl
def InMk (w : World) (a : Option Addr) (n : Nat) (xs : List Mk) : Prop := xs.length = n ∧ (0 < n → ∃ b off, a = some ⟨b, off, none⟩ ∧ b < w.heap.size ∧ ∀ (i j : Nat) x v, xs[i]? = some x → x.cells[j]? = some v → w.cell? ⟨b, off + (i * 3 + j), none⟩ = some v)
theorem InMk.keep {w w' : World} {a : Option Addr} {n : Nat} {xs : List Mk} {fp : Nat → Prop} (h : InMk w a n xs) (c : Ch fp w w') (hn : ∀ b off, a = some ⟨b, off, none⟩ → 0 < n → ¬ fp b) : InMk w' a n xs :=
  ⟨h.1, fun h0 => by
    obtain ⟨b, off, rfl, hb, hc⟩ := h.2 h0
    exact ⟨b, off, rfl, Nat.lt_of_lt_of_le hb c.size, fun i j x v hi hj => (c.cell (p := ⟨b, _, none⟩) hb (hn b off rfl h0)).trans (hc i j x v hi hj)⟩⟩
theorem own_mk {w : World} {B n : Nat} {v : Value} {l : List Mk} (h : w.ownsRow B 160 3 v n (mkCells l)) : ∃ A cap, v = .slice A n cap ∧ n ≤ cap ∧ (A = none → cap = 0) ∧ InMk w A n l := by
  have hl : l.length = n := by have := h.1; rw [mkCells_length] at this; omega
  rcases h.2 with ⟨rfl, hn⟩ | ⟨g, cap, cur, rfl, hB, hg, hnc, _, _, _⟩
  · subst hn
    exact ⟨none, 0, rfl, Nat.le_refl _, fun _ => rfl, hl, fun h0 => absurd h0 (by omega)⟩
  · refine ⟨some ⟨g, 0, none⟩, cap, rfl, hnc, (fun e => by cases e), hl, fun h0 => ⟨g, 0, rfl, (Array.getElem?_eq_some_iff.1 hg).1, fun i j x v hi hj => ?_⟩⟩
    have := h.cells (g := g) rfl (i * 3 + j) v (mkCells_get l i x hi j v hj)
    rw [addr_add0] at this
    rw [Nat.zero_add]; exact this
def OwnMk (w w' : World) (l : List Mk) (e : Ending) : Prop := ∃ v, e = .returned v ∧ w'.ownsRow w.heap.size 160 3 v l.length (mkCells l) ∧ Ch (fun _ => False) w w'
theorem infoMk : (Tryz.prog.info? 160).map (fun i => (i.zero, i.size, i.bytes)) = some (some (Value.agg #[.int .u32 0, .int .i64 0, .int .u8 0]), 3, 24) := by kernel_rfl
theorem mk_nil_run (w : World) : (binOp .eql 47 (.slice none 0 0) (.slice none 0 0)).run Tryz.prog w = .ok (.bool true) w := by
  simp only [binOp]
  simp [run_equal_slice_nil w 47 160 none 0 0 Tryz.underlying47]
theorem mk_not_nil_run (a : Addr) (n c : Nat) (w : World) : (binOp .eql 47 (.slice (some a) n c) (.slice none 0 0)).run Tryz.prog w = .ok (.bool false) w := by
  simp only [binOp]
  simp [run_equal_slice_nil w 47 160 (some a) n c Tryz.underlying47]
set_option maxRecDepth 100000 in
set_option maxHeartbeats 1000000 in
theorem cloneMarks_any (a : Option Addr) (n ca : Nat) (xs : List Mk) (w : World) (ha : InMk w a n xs) (hn : n < 1000000) (hz : a = none → ca = 0) :
    Calls Tryz.prog 91 #[.slice a n ca] w fun e w' => OwnMk w w' xs e := by
  obtain ⟨i0, hi, hz0, hz1, hz2⟩ := info_parts infoMk
  cases a with
  | none =>
    obtain rfl := hz rfl
    have h0 : n = 0 := by
      rcases Nat.eq_zero_or_pos n with h | h
      · exact h
      · obtain ⟨b, off, hb, _⟩ := ha.2 h
        cases hb
    subst h0
    have hx : xs = [] := List.eq_nil_of_length_eq_zero ha.1
    subst hx
    go_enter Tryz.func91, Tryz.ntmps91
    go_wp2_with fail
    rw [mk_nil_run]
    go_wp2_with fail
    go_ret
    exact ⟨_, rfl, World.ownsRow_nil _ _ _ _, Ch.refl _ _⟩
  | some ad =>
    have hne : (Value.slice (some ad) n ca) ≠ .slice none 0 0 := by intro h; cases h
    go_enter Tryz.func91, Tryz.ntmps91
    go_wp2_with fail
    rw [mk_not_nil_run]
    go_wp2_with (at_builtin; refine wpList_append_own _ rfl (.tmp 5) (.tmp 6) 47 rfl w.heap.size 160 i0 _ 3 24 Tryz.underlying47 hi hz0 hz1 hz2 rfl (by decide) (.slice (some ⟨w.heap.size, 0, none⟩) 0 0) 0 [] rfl (World.ownsRow_made w #[] 0 (Nat.le_refl _) (Nat.zero_le _) rfl) ad n ca (mkCells xs) rfl ?c0 ?c1 ?c2 ?c3 ?c4 ?c5 ?c6)
    case c0 => rw [mkCells_length, ha.1]
    case c1 =>
      intro j u hu
      have hl : j < n * 3 := by have := (List.getElem?_eq_some_iff.1 hu).1; rw [mkCells_length, ha.1] at this; exact this
      obtain ⟨b1, o1, hb, hbl, h1⟩ := ha.2 (by omega)
      injection hb with hb
      subst hb
      rw [addr_add]
      obtain ⟨x, hx⟩ : ∃ x, xs[j / 3]? = some x := ⟨_, List.getElem?_eq_getElem (by rw [ha.1]; omega)⟩
      have hxc : x.cells[j % 3]? = some u := by
        have hm : j % 3 < x.cells.length := by simp [Mk.cells]; omega
        have := mkCells_get xs (j / 3) x hx (j % 3) _ (List.getElem?_eq_getElem hm)
        rw [show j / 3 * 3 + j % 3 = j by omega, hu] at this
        rw [List.getElem?_eq_getElem hm, ← Option.some.inj this]
      have := h1 (j / 3) (j % 3) x u hx hxc
      rw [show j / 3 * 3 + j % 3 = j by omega] at this
      exact (World.cell?_alloc_lt _ _ _ hbl).trans this
    case c2 => exact mk_one xs
    case c3 => unfold maxLen; omega
    case c4 => omega
    case c5 => simp
    case c6 =>
      intro v' w' hown' hgrow _
      have hch' : Ch (fun _ => False) w w' := ((Ch.refl (fun _ => False) w).alloc _).grown hgrow (fun g hg hl => by
        injection hg with hg
        have hg2 : w.heap.size = g := hg
        omega)
      go_wp2_with fail
      go_ret
      first | rw [Nat.zero_add, List.nil_append] at hown' | skip
      exact ⟨_, rfl, by rw [ha.1]; exact hown', hch'⟩
def Pc.cells (x : Pc) : List Value := [.int .u8 x.k, .int .i64 x.n, .string x.s]
def pcCells (l : List Pc) : List Value := l.flatMap Pc.cells
theorem pcCells_length (l : List Pc) : (pcCells l).length = l.length * 3 := by
  induction l with
  | nil => rfl
  | cons x l ih => simp only [pcCells, List.flatMap_cons, List.length_append, List.length_cons] at ih ⊢; rw [ih]; simp [Pc.cells]; omega
theorem pcCells_get (l : List Pc) (i : Nat) (x : Pc) (hi : l[i]? = some x) (j : Nat) (v : Value) (hj : x.cells[j]? = some v) : (pcCells l)[i * 3 + j]? = some v := by
  induction l generalizing i with
  | nil => simp at hi
  | cons y l ih =>
    cases i with
    | zero =>
      injection hi with hi
      subst hi
      have hlt : j < y.cells.length := (List.getElem?_eq_some_iff.1 hj).1
      simp only [pcCells, List.flatMap_cons, Nat.zero_mul, Nat.zero_add]
      rw [List.getElem?_append_left hlt]
      exact hj
    | succ i =>
      have h := ih i (by simpa using hi)
      simp only [pcCells, List.flatMap_cons] at h ⊢
      rw [List.getElem?_append_right (by simp [Pc.cells]; omega), show (i + 1) * 3 + j - y.cells.length = i * 3 + j by simp [Pc.cells]; omega]
      exact h
theorem pc_one (l : List Pc) : ∀ u ∈ pcCells l, u.oneCell' = true := by
  intro u hu
  simp only [pcCells, List.mem_flatMap] at hu
  obtain ⟨x, _, hx⟩ := hu
  simp only [Pc.cells, List.mem_cons, List.not_mem_nil, or_false] at hx
  rcases hx with rfl | rfl | rfl <;> rfl
def InPc (w : World) (a : Option Addr) (n : Nat) (xs : List Pc) : Prop := xs.length = n ∧ (0 < n → ∃ b off, a = some ⟨b, off, none⟩ ∧ b < w.heap.size ∧ ∀ (i j : Nat) x v, xs[i]? = some x → x.cells[j]? = some v → w.cell? ⟨b, off + (i * 3 + j), none⟩ = some v)
theorem InPc.keep {w w' : World} {a : Option Addr} {n : Nat} {xs : List Pc} {fp : Nat → Prop} (h : InPc w a n xs) (c : Ch fp w w') (hn : ∀ b off, a = some ⟨b, off, none⟩ → 0 < n → ¬ fp b) : InPc w' a n xs :=
  ⟨h.1, fun h0 => by
    obtain ⟨b, off, rfl, hb, hc⟩ := h.2 h0
    exact ⟨b, off, rfl, Nat.lt_of_lt_of_le hb c.size, fun i j x v hi hj => (c.cell (p := ⟨b, _, none⟩) hb (hn b off rfl h0)).trans (hc i j x v hi hj)⟩⟩
theorem own_pc {w : World} {B n : Nat} {v : Value} {l : List Pc} (h : w.ownsRow B 217 3 v n (pcCells l)) : ∃ A cap, v = .slice A n cap ∧ n ≤ cap ∧ (A = none → cap = 0) ∧ InPc w A n l := by
  have hl : l.length = n := by have := h.1; rw [pcCells_length] at this; omega
  rcases h.2 with ⟨rfl, hn⟩ | ⟨g, cap, cur, rfl, hB, hg, hnc, _, _, _⟩
  · subst hn
    exact ⟨none, 0, rfl, Nat.le_refl _, fun _ => rfl, hl, fun h0 => absurd h0 (by omega)⟩
  · refine ⟨some ⟨g, 0, none⟩, cap, rfl, hnc, (fun e => by cases e), hl, fun h0 => ⟨g, 0, rfl, (Array.getElem?_eq_some_iff.1 hg).1, fun i j x v hi hj => ?_⟩⟩
    have := h.cells (g := g) rfl (i * 3 + j) v (pcCells_get l i x hi j v hj)
    rw [addr_add0] at this
    rw [Nat.zero_add]; exact this
def OwnPc (w w' : World) (l : List Pc) (e : Ending) : Prop := ∃ v, e = .returned v ∧ w'.ownsRow w.heap.size 217 3 v l.length (pcCells l) ∧ Ch (fun _ => False) w w'
theorem infoPc : (Tryz.prog.info? 217).map (fun i => (i.zero, i.size, i.bytes)) = some (some (Value.agg #[.int .u8 0, .int .i64 0, .string ⟨#[]⟩]), 3, 32) := by kernel_rfl
theorem pc_nil_run (w : World) : (binOp .eql 37 (.slice none 0 0) (.slice none 0 0)).run Tryz.prog w = .ok (.bool true) w := by
  simp only [binOp]
  simp [run_equal_slice_nil w 37 217 none 0 0 Tryz.underlying37]
theorem pc_not_nil_run (a : Addr) (n c : Nat) (w : World) : (binOp .eql 37 (.slice (some a) n c) (.slice none 0 0)).run Tryz.prog w = .ok (.bool false) w := by
  simp only [binOp]
  simp [run_equal_slice_nil w 37 217 (some a) n c Tryz.underlying37]
set_option maxRecDepth 100000 in
set_option maxHeartbeats 1000000 in
theorem clonePieces_any (a : Option Addr) (n ca : Nat) (xs : List Pc) (w : World) (ha : InPc w a n xs) (hn : n < 1000000) (hz : a = none → ca = 0) :
    Calls Tryz.prog 92 #[.slice a n ca] w fun e w' => OwnPc w w' xs e := by
  obtain ⟨i0, hi, hz0, hz1, hz2⟩ := info_parts infoPc
  cases a with
  | none =>
    obtain rfl := hz rfl
    have h0 : n = 0 := by
      rcases Nat.eq_zero_or_pos n with h | h
      · exact h
      · obtain ⟨b, off, hb, _⟩ := ha.2 h
        cases hb
    subst h0
    have hx : xs = [] := List.eq_nil_of_length_eq_zero ha.1
    subst hx
    go_enter Tryz.func92, Tryz.ntmps92
    go_wp2_with fail
    rw [pc_nil_run]
    go_wp2_with fail
    go_ret
    exact ⟨_, rfl, World.ownsRow_nil _ _ _ _, Ch.refl _ _⟩
  | some ad =>
    have hne : (Value.slice (some ad) n ca) ≠ .slice none 0 0 := by intro h; cases h
    go_enter Tryz.func92, Tryz.ntmps92
    go_wp2_with fail
    rw [pc_not_nil_run]
    go_wp2_with (at_builtin; refine wpList_append_own _ rfl (.tmp 5) (.tmp 6) 37 rfl w.heap.size 217 i0 _ 3 32 Tryz.underlying37 hi hz0 hz1 hz2 rfl (by decide) (.slice (some ⟨w.heap.size, 0, none⟩) 0 0) 0 [] rfl (World.ownsRow_made w #[] 0 (Nat.le_refl _) (Nat.zero_le _) rfl) ad n ca (pcCells xs) rfl ?c0 ?c1 ?c2 ?c3 ?c4 ?c5 ?c6)
    case c0 => rw [pcCells_length, ha.1]
    case c1 =>
      intro j u hu
      have hl : j < n * 3 := by have := (List.getElem?_eq_some_iff.1 hu).1; rw [pcCells_length, ha.1] at this; exact this
      obtain ⟨b1, o1, hb, hbl, h1⟩ := ha.2 (by omega)
      injection hb with hb
      subst hb
      rw [addr_add]
      obtain ⟨x, hx⟩ : ∃ x, xs[j / 3]? = some x := ⟨_, List.getElem?_eq_getElem (by rw [ha.1]; omega)⟩
      have hxc : x.cells[j % 3]? = some u := by
        have hm : j % 3 < x.cells.length := by simp [Pc.cells]; omega
        have := pcCells_get xs (j / 3) x hx (j % 3) _ (List.getElem?_eq_getElem hm)
        rw [show j / 3 * 3 + j % 3 = j by omega, hu] at this
        rw [List.getElem?_eq_getElem hm, ← Option.some.inj this]
      have := h1 (j / 3) (j % 3) x u hx hxc
      rw [show j / 3 * 3 + j % 3 = j by omega] at this
      exact (World.cell?_alloc_lt _ _ _ hbl).trans this
    case c2 => exact pc_one xs
    case c3 => unfold maxLen; omega
    case c4 => omega
    case c5 => simp
    case c6 =>
      intro v' w' hown' hgrow _
      have hch' : Ch (fun _ => False) w w' := ((Ch.refl (fun _ => False) w).alloc _).grown hgrow (fun g hg hl => by
        injection hg with hg
        have hg2 : w.heap.size = g := hg
        omega)
      go_wp2_with fail
      go_ret
      first | rw [Nat.zero_add, List.nil_append] at hown' | skip
      exact ⟨_, rfl, by rw [ha.1]; exact hown', hch'⟩
end Go.Proofs.YtjcdknhejcbpiaaGreat
