/- QueueSteps: its memory. -/
import Derived.Test.YtpkjjlahmjijnaaQOrd
import Derived.Test.YtpkjjlahmjijnaaRQD
import Derived.Test.YtpkjjlahmjijnaaQNewB
import Derived.Test.YtpkjjlahmjijnaaCellF
namespace Go.Proofs.Ytpkjjlahmjijnaa
open Go.RowKit
set_option linter.unusedVariables false
set_option linter.unusedSimpArgs false
set_option linter.unusedSectionVars false

set_option maxRecDepth 100000 in
theorem lnext_nil (w : World) : Calls Try.prog 32 #[.pointer none] w fun e w' => e = .returned (.int .u8 0) ∧ w = w' := by
  go_enter Try.func32, Try.ntmps32
  go_wp2_with fail
  go_ret
  exact ⟨rfl, rfl⟩
set_option maxRecDepth 100000 in
theorem rlnext_nil (w : World) : Calls Try.prog 38 #[.pointer none] w fun e w' => e = .returned (.int .u8 0) ∧ w = w' := by
  go_enter Try.func38, Try.ntmps38
  go_wp2_with fail
  go_ret
  exact ⟨rfl, rfl⟩
set_option maxRecDepth 100000 in
theorem lstep_nil (w : World) : Calls Try.prog 30 #[.pointer none] w fun e w' => e = .returned (.tuple #[.int .u8 0, .bool false]) ∧ w = w' := by
  go_enter Try.func30, Try.ntmps30
  go_wp2_with fail
  go_ret2
  exact ⟨rfl, rfl⟩
set_option maxRecDepth 100000 in
theorem rlstep_nil (w : World) : Calls Try.prog 39 #[.pointer none] w fun e w' => e = .returned (.tuple #[.int .u8 0, .bool false]) ∧ w = w' := by
  go_enter Try.func39, Try.ntmps39
  go_wp2_with fail
  go_ret2
  exact ⟨rfl, rfl⟩
set_option maxRecDepth 100000 in
theorem lres_nil (w : World) : Calls Try.prog 31 #[.pointer none] w fun e w' => e = .returned (.tuple #[.int .u64 0, .int .i64 1]) ∧ w = w' := by
  go_enter Try.func31, Try.ntmps31
  go_wp2_with fail
  go_ret2
  exact ⟨rfl, rfl⟩
set_option maxRecDepth 100000 in
theorem rlres_nil (w : World) : Calls Try.prog 40 #[.pointer none] w fun e w' => e = .returned (.tuple #[.int .u64 0, .int .i64 1]) ∧ w = w' := by
  go_enter Try.func40, Try.ntmps40
  go_wp2_with fail
  go_ret2
  exact ⟨rfl, rfl⟩

def lawS (n : Nat) : Qd := ⟨1, n + 2, 2, n⟩
theorem ent_lawS {n : Nat} (h1 : 1 ≤ n) (i : Int) : 2 ≤ (lawS n).ent i ∧ (lawS n).ent i < n + 2 := by
  have := Int.emod_nonneg i (show (n : Int) ≠ 0 by omega)
  have := Int.emod_lt_of_pos i (show (0 : Int) < (n : Int) by omega)
  unfold Qd.ent lawS
  show 2 ≤ 2 + (i % (n : Int)).toNat ∧ 2 + (i % (n : Int)).toNat < n + 2
  omega
theorem lk_se {l : List Int} {i : Nat} (x : Int) (h : i < l.length) : lk (l.set i x) i = x := by simp [lk, List.getD_eq_getElem?_getD, h]
/-- The cells, while the events go on. -/
structure SI (M n : Nat) (s : BS) : Prop where
  h : 0 ≤ qH s (lawS n) ∧ qH s (lawS n) ≤ M
  t : 0 ≤ qT s (lawS n) ∧ qT s (lawS n) ≤ M
  lg : s.lg.length ≤ M
  len : s.vs.length = n + 4
structure PuI (M : Nat) (q : Pu) : Prop where
  t : 0 ≤ q.t ∧ q.t < 16
  v : 0 ≤ q.v ∧ q.v < 18446744073709551616
  fr : 0 ≤ q.fr ∧ q.fr ≤ M
  ph : q.ph = 0 ∨ q.ph = 4 ∨ q.ph = 5 ∨ q.ph = 6 ∨ q.ph = 7
structure PlI (M n : Nat) (s : BS) (q : Pl) : Prop where
  t : 0 ≤ q.t ∧ q.t < 16
  a : 0 ≤ q.at' ∧ q.at' ≤ M
  ph : q.ph = 0 ∨ ((q.ph = 19 ∨ q.ph = 20 ∨ q.ph = 21) ∧ q.at' = qH s (lawS n))
  fin : q.fin = (q.ph == 0)
theorem SI.mono {M M' n : Nat} {s : BS} (h : SI M n s) (hm : M ≤ M') : SI M' n s := ⟨by have := h.h; omega, by have := h.t; omega, by have := h.lg; omega, h.len⟩
theorem PuI.mono {M M' : Nat} {q : Pu} (h : PuI M q) (hm : M ≤ M') : PuI M' q := ⟨h.t, h.v, by have := h.fr; omega, h.ph⟩
theorem PlI.mono {M M' n : Nat} {s s' : BS} {q : Pl} (h : PlI M n s q) (hm : M ≤ M') (hs : qH s' (lawS n) = qH s (lawS n)) : PlI M' n s' q := ⟨h.t, by have := h.a; omega, by rw [hs]; exact h.ph, h.fin⟩
/-- What a push's step keeps. -/
theorem pu_inv {M n : Nat} {s : BS} {q : Pu} (hs : SI M n s) (hq : PuI M q) (h1 : 1 ≤ n) (hM : M ≤ 500000) : SI (M + 1) n (pustep s (lawS n) q).1 ∧ PuI (M + 1) (pustep s (lawS n) q).2 ∧ qH (pustep s (lawS n) q).1 (lawS n) = qH s (lawS n) := by
  have hh := hs.h
  have ht := hs.t
  have hl := hs.lg
  have hn := hs.len
  have hf := hq.fr
  have hte : (lawS n).tail = n + 2 := rfl
  have hhe : (lawS n).head = 1 := rfl
  unfold pustep
  rcases hq.ph with e | e | e | e | e
  · rw [if_neg (by rw [e]; decide), if_neg (by rw [e]; decide), if_neg (by rw [e]; decide), if_neg (by rw [e]; decide)]
    exact ⟨hs.mono (by omega), hq.mono (by omega), rfl⟩
  · rw [if_pos e]
    exact ⟨⟨⟨hh.1, Int.le_trans hh.2 (by omega)⟩, ⟨ht.1, Int.le_trans ht.2 (by omega)⟩, by show (s.load _ _).lg.length ≤ _; rw [load_lg]; omega, hn⟩, ⟨hq.t, hq.v, ⟨ht.1, Int.le_trans ht.2 (by omega)⟩, .inr (.inr (.inl rfl))⟩, rfl⟩
  · rw [if_neg (by rw [e]; decide), if_pos e]
    refine ⟨⟨⟨hh.1, Int.le_trans hh.2 (by omega)⟩, ⟨ht.1, Int.le_trans ht.2 (by omega)⟩, by show (s.load _ _).lg.length ≤ _; rw [load_lg]; omega, hn⟩, ?_, rfl⟩
    show PuI (M + 1) (if _ then _ else if _ then _ else _)
    split
    · exact ⟨hq.t, hq.v, ⟨hf.1, Int.le_trans hf.2 (by omega)⟩, .inr (.inl rfl)⟩
    · split
      · exact ⟨hq.t, hq.v, ⟨hf.1, Int.le_trans hf.2 (by omega)⟩, .inl rfl⟩
      · exact ⟨hq.t, hq.v, ⟨hf.1, Int.le_trans hf.2 (by omega)⟩, .inr (.inr (.inr (.inl rfl)))⟩
  · rw [if_neg (by rw [e]; decide), if_neg (by rw [e]; decide), if_pos e]
    have hv : (s.cas q.t ((lawS n).tail : Nat) q.fr (w64 (q.fr + 1))).vs = if lk s.vs (n + 2) = q.fr then s.vs.set (n + 2) (w64 (q.fr + 1)) else s.vs := cas_vs s _ _ _ _
    have hw : w64 (q.fr + 1) = q.fr + 1 := by unfold w64; omega
    have hH : lk (s.cas q.t ((lawS n).tail : Nat) q.fr (w64 (q.fr + 1))).vs 1 = lk s.vs 1 := by
      rw [hv]
      split
      · exact lk_set_ne _ (by omega)
      · rfl
    have hT : lk (s.cas q.t ((lawS n).tail : Nat) q.fr (w64 (q.fr + 1))).vs (n + 2) = lk s.vs (n + 2) ∨ lk (s.cas q.t ((lawS n).tail : Nat) q.fr (w64 (q.fr + 1))).vs (n + 2) = q.fr + 1 := by
      rw [hv]
      split
      · right
        rw [lk_se _ (by omega), hw]
      · exact .inl rfl
    refine ⟨⟨?_, ?_, ?_, ?_⟩, ?_, hH⟩
    · show 0 ≤ lk _ 1 ∧ lk _ 1 ≤ _
      rw [hH]
      have : qH s (lawS n) = lk s.vs 1 := rfl
      omega
    · show 0 ≤ lk _ (n + 2) ∧ lk _ (n + 2) ≤ _
      have : qT s (lawS n) = lk s.vs (n + 2) := rfl
      rcases hT with e' | e' <;> rw [e'] <;> omega
    · show (s.cas _ _ _ _).lg.length ≤ _
      rw [cas_lg]; omega
    · show (s.cas _ _ _ _).vs.length = _
      rw [hv]
      split
      · rw [List.length_set]; exact hn
      · exact hn
    · show PuI (M + 1) (if _ then _ else _)
      split
      · exact ⟨hq.t, hq.v, ⟨hf.1, Int.le_trans hf.2 (by omega)⟩, .inr (.inr (.inr (.inr rfl)))⟩
      · exact ⟨hq.t, hq.v, ⟨hf.1, Int.le_trans hf.2 (by omega)⟩, .inr (.inl rfl)⟩
  · rw [if_neg (by rw [e]; decide), if_neg (by rw [e]; decide), if_neg (by rw [e]; decide), if_pos e]
    have he := ent_lawS h1 q.fr
    have hH : lk (s.store q.t ((lawS n).ent q.fr : Nat) q.v).vs 1 = lk s.vs 1 := lk_set_ne (i := ((lawS n).ent q.fr : Int).toNat) _ (by omega)
    have hT : lk (s.store q.t ((lawS n).ent q.fr : Nat) q.v).vs (n + 2) = lk s.vs (n + 2) := lk_set_ne (i := ((lawS n).ent q.fr : Int).toNat) _ (by omega)
    refine ⟨⟨?_, ?_, ?_, ?_⟩, ⟨hq.t, hq.v, ⟨hf.1, Int.le_trans hf.2 (by omega)⟩, .inl rfl⟩, hH⟩
    · show 0 ≤ lk _ 1 ∧ lk _ 1 ≤ _
      rw [hH]
      have : qH s (lawS n) = lk s.vs 1 := rfl
      omega
    · show 0 ≤ lk _ (n + 2) ∧ lk _ (n + 2) ≤ _
      rw [hT]
      have : qT s (lawS n) = lk s.vs (n + 2) := rfl
      omega
    · show (s.store _ _ _).lg.length ≤ _
      rw [store_lg]; omega
    · show (s.store _ _ _).vs.length = _
      rw [store_vs, List.length_set]; exact hn
/-- What a pull's step keeps. -/
theorem pl_inv {M n : Nat} {s : BS} {q : Pl} (hs : SI M n s) (hq : PlI M n s q) (h1 : 1 ≤ n) (hM : M ≤ 500000) : SI (M + 1) n (plstep s (lawS n) q).1 ∧ PlI (M + 1) n (plstep s (lawS n) q).1 (plstep s (lawS n) q).2 := by
  have hh := hs.h
  have ht := hs.t
  have hl := hs.lg
  have hn := hs.len
  have ha := hq.a
  have hfin := hq.fin
  have hte : (lawS n).tail = n + 2 := rfl
  have hhe : (lawS n).head = 1 := rfl
  unfold plstep
  rcases hq.ph with e | ⟨e | e | e, ea⟩
  · rw [if_neg (by rw [e]; decide), if_neg (by rw [e]; decide), if_neg (by rw [e]; decide)]
    exact ⟨hs.mono (by omega), hq.mono (by omega) rfl⟩
  · rw [if_pos e]
    refine ⟨⟨⟨hh.1, Int.le_trans hh.2 (by omega)⟩, ⟨ht.1, Int.le_trans ht.2 (by omega)⟩, by show (s.load _ _).lg.length ≤ _; rw [load_lg]; omega, hn⟩, ?_⟩
    show PlI (M + 1) n _ (if _ then _ else _)
    split
    · exact ⟨hq.t, ⟨ha.1, Int.le_trans ha.2 (by omega)⟩, .inl rfl, rfl⟩
    · exact ⟨hq.t, ⟨ha.1, Int.le_trans ha.2 (by omega)⟩, .inr ⟨.inr (.inl rfl), ea⟩, by show q.fin = _; rw [hfin, e]; rfl⟩
  · rw [if_neg (by rw [e]; decide), if_pos e]
    have he := ent_lawS h1 q.at'
    have hH : lk (s.store q.t ((lawS n).ent q.at' : Nat) 0).vs 1 = lk s.vs 1 := lk_set_ne (i := ((lawS n).ent q.at' : Int).toNat) _ (by omega)
    have hT : lk (s.store q.t ((lawS n).ent q.at' : Nat) 0).vs (n + 2) = lk s.vs (n + 2) := lk_set_ne (i := ((lawS n).ent q.at' : Int).toNat) _ (by omega)
    refine ⟨⟨?_, ?_, ?_, ?_⟩, ⟨hq.t, ⟨ha.1, Int.le_trans ha.2 (by omega)⟩, .inr ⟨.inr (.inr rfl), ?_⟩, by show q.fin = _; rw [hfin, e]; rfl⟩⟩
    · show 0 ≤ lk _ 1 ∧ lk _ 1 ≤ _
      rw [hH]
      have : qH s (lawS n) = lk s.vs 1 := rfl
      omega
    · show 0 ≤ lk _ (n + 2) ∧ lk _ (n + 2) ≤ _
      rw [hT]
      have : qT s (lawS n) = lk s.vs (n + 2) := rfl
      omega
    · show (s.store _ _ _).lg.length ≤ _
      rw [store_lg]; omega
    · show (s.store _ _ _).vs.length = _
      rw [store_vs, List.length_set]; exact hn
    · show q.at' = lk _ 1
      rw [hH]; exact ea
  · rw [if_neg (by rw [e]; decide), if_neg (by rw [e]; decide), if_pos e]
    have hw : w64 (q.at' + 1) = q.at' + 1 := by unfold w64; omega
    have hH : lk (s.store q.t ((lawS n).head : Nat) (w64 (q.at' + 1))).vs 1 = q.at' + 1 := by
      rw [hw]
      exact lk_se (l := s.vs) (i := 1) _ (by omega)
    have hT : lk (s.store q.t ((lawS n).head : Nat) (w64 (q.at' + 1))).vs (n + 2) = lk s.vs (n + 2) := lk_set_ne (l := s.vs) (i := 1) (j := n + 2) _ (by omega)
    refine ⟨⟨?_, ?_, ?_, ?_⟩, ⟨hq.t, ⟨ha.1, Int.le_trans ha.2 (by omega)⟩, .inl rfl, rfl⟩⟩
    · show 0 ≤ lk _ 1 ∧ lk _ 1 ≤ _
      rw [hH]; omega
    · show 0 ≤ lk _ (n + 2) ∧ lk _ (n + 2) ≤ _
      rw [hT]
      have : qT s (lawS n) = lk s.vs (n + 2) := rfl
      omega
    · show (s.store _ _ _).lg.length ≤ _
      rw [store_lg]; omega
    · show (s.store _ _ _).vs.length = _
      rw [store_vs, List.length_set]; exact hn

abbrev LP := Option (Nat × Nat × Pl)
def refqR (B rp vb rq : Nat) (mv : Value) (s : BS) (f : Qd) (bs : Bool) : Res where
  holds w := RQuM B w rp vb rq mv s f bs
  foot k := FP rp vb mv k ∨ k = rq
  stable h c hn := h.ch c (fun k hk => hn k hk)
  lt h k hk := by
    rcases hk with (rfl | rfl | hk) | rfl
    · exact h.r.hp.lt
    · exact h.r.hc.lt
    · exact (h.r.hl.lt k hk).2
    · exact h.fd.lt
/-- A push and the reference's. -/
def pairX (qb rq g g' : Nat) (q r : Pu) : Res where
  holds w := Blk w g 105 (puCells qb q) ∧ Blk w g' 113 (rpuCells rq r)
  foot k := k = g ∨ k = g'
  stable h c hn := ⟨c.blk h.1 (hn _ (.inl rfl)), c.blk h.2 (hn _ (.inr rfl))⟩
  lt h k hk := by
    rcases hk with rfl | rfl
    · exact h.1.lt
    · exact h.2.lt
def pairR (qb rq : Nat) (x : Nat × Nat × Pu) : Res := pairX qb rq x.1 x.2.1 x.2.2 x.2.2
def lpR (qb : Nat) : LP → Res
  | some (g, _, q) => blkR g 109 (plCells qb q)
  | none => pureR True
def rlpR (rq : Nat) : LP → Res
  | some (_, g, q) => blkR g 115 (rplCells rq q)
  | none => pureR True
def lpV : LP → Value
  | some (g, _, _) => .pointer (some ⟨g, 0, none⟩)
  | none => .pointer none
def rlpV : LP → Value
  | some (_, g, _) => .pointer (some ⟨g, 0, none⟩)
  | none => .pointer none
def lpB : LP → Bool
  | some (_, _, q) => q.ph != 0
  | none => false
/-- The things of QueueSteps. -/
def qsL (B p cb qb rp vb rq n : Nat) (lv mv vp vr : Value) (m1 m2 : Nat) (l1 l2 : List Nat) (s s2 : BS) (pu : Value) (bs : Bool) (r2 r3 : Res) (L : List Res) : List Res :=
  queueR B p cb qb lv s (lawS n) pu :: refqR B rp vb rq mv s2 (lawS n) bs :: r2 :: r3 :: rowR B 52 1 m1 vp (ptrV l1) :: rowR B 72 1 m2 vr (ptrV l2) :: L
/-- The memory of QueueSteps, and what is known of it. -/
structure RunS (B p cb qb rp vb rq n M : Nat) (lv mv vp vr : Value) (s : BS) (gp : List (Nat × Nat × Pu)) (gq : LP) (w0 w : World) : Prop where
  mem : Mem B w0 (qsL B p cb qb rp vb rq n lv mv vp vr gp.length gp.length (gp.map Prod.fst) (gp.map fun y => y.2.1) s s (lpV gq) (lpB gq) (lpR qb gq) (rlpR rq gq) (gp.map (pairR qb rq))) w
  si : SI M n s
  pm : gp.length ≤ M
  hM : M ≤ 500000
  n1 : 1 ≤ n
  pu : ∀ (k g g' : Nat) (q : Pu), gp[k]? = some (g, g', q) → PuI M q
  pl : ∀ (g g' : Nat) (q : Pl), gq = some (g, g', q) → PlI M n s q

section
variable {B p cb qb rp vb rq n M k g g' m1 m2 : Nat} {lv lv' mv mv' vp vp' vr vr' pv : Value} {s s' s2 : BS} {l1 l2 : List Nat} {bs : Bool} {r2 r3 x : Res} {L : List Res} {gp : List (Nat × Nat × Pu)} {gq : LP} {q q' : Pu} {w0 w w1 w2 w' : World}
theorem qs_at (h : L[k]? = some x) : (qsL B p cb qb rp vb rq n lv mv vp vr m1 m2 l1 l2 s s2 pv bs r2 r3 L)[6 + k]? = some x := by
  rw [Nat.add_comm]
  simp only [qsL, List.getElem?_cons_succ]; exact h
theorem qs_set (x : Res) : (qsL B p cb qb rp vb rq n lv mv vp vr m1 m2 l1 l2 s s2 pv bs r2 r3 L).set (6 + k) x = qsL B p cb qb rp vb rq n lv mv vp vr m1 m2 l1 l2 s s2 pv bs r2 r3 (L.set k x) := by
  rw [Nat.add_comm]
  simp only [qsL, List.set_cons_succ]
theorem RunS.keep (h : RunS B p cb qb rp vb rq n M lv mv vp vr s gp gq w0 w) (c : Ch (fun _ => False) w w') : RunS B p cb qb rp vb rq n M lv mv vp vr s gp gq w0 w' := { h with mem := h.mem.keep c }
theorem RunS.drewN (h : RunS B p cb qb rp vb rq n M lv mv vp vr s gp gq w0 w) (m : Nat) : RunS B p cb qb rp vb rq n M lv mv vp vr s gp gq w0 (w.drewN m) := h.keep ((Ch.refl _ w).drewN m)
theorem RunS.mono {M' : Nat} (h : RunS B p cb qb rp vb rq n M lv mv vp vr s gp gq w0 w) (h1 : M ≤ M') (h2 : M' ≤ 500000) : RunS B p cb qb rp vb rq n M' lv mv vp vr s gp gq w0 w := ⟨h.mem, h.si.mono h1, Nat.le_trans h.pm h1, h2, h.n1, fun k g g' q hk => (h.pu k g g' q hk).mono h1, fun g g' q e => (h.pl g g' q e).mono h1 rfl⟩
theorem RunS.qm (h : RunS B p cb qb rp vb rq n M lv mv vp vr s gp gq w0 w) : QueueM B w p cb qb lv s (lawS n) (lpV gq) := h.mem.each 0 _ rfl
theorem RunS.rm (h : RunS B p cb qb rp vb rq n M lv mv vp vr s gp gq w0 w) : RQuM B w rp vb rq mv s (lawS n) (lpB gq) := h.mem.each 1 _ rfl
theorem RunS.vpr (h : RunS B p cb qb rp vb rq n M lv mv vp vr s gp gq w0 w) : w.ownsRow B 52 1 vp gp.length (ptrV (gp.map Prod.fst)) := h.mem.each 4 _ rfl
theorem RunS.vrr (h : RunS B p cb qb rp vb rq n M lv mv vp vr s gp gq w0 w) : w.ownsRow B 72 1 vr gp.length (ptrV (gp.map fun y => y.2.1)) := h.mem.each 5 _ rfl
theorem RunS.push (h : RunS B p cb qb rp vb rq n M lv mv vp vr s gp gq w0 w) (hk : gp[k]? = some (g, g', q)) : Blk w g 105 (puCells qb q) ∧ Blk w g' 113 (rpuCells rq q) := h.mem.each (6 + k) (pairR qb rq (g, g', q)) (qs_at (by simp [hk]))
theorem qfp_new {v v' : Value} {W : World} (hf : Fresh W v v') {k : Nat} (h : FP p cb v' k ∨ k = qb) : (FP p cb v k ∨ k = qb) ∨ W.heap.size ≤ k := by
  rcases h with (e | e | e) | e
  · exact .inl (.inl (.inl e))
  · exact .inl (.inl (.inr (.inl e)))
  · rcases hf with e' | e'
    · exact .inl (.inl (.inr (.inr (by rw [← e']; exact e))))
    · exact .inr (e' k e)
  · exact .inl (.inr e)
/-- A push was begun. -/
theorem RunS.begun (h : RunS B p cb qb rp vb rq n M lv mv vp vr s gp gq w0 w) (hb : Blk w1 g 105 (puCells qb q)) (c : Ch (fun _ => False) w w1) (hg : w.heap.size ≤ g) (hb2 : Blk w2 g' 113 (rpuCells rq q)) (c2 : Ch (fun _ => False) w1 w2) (hg2 : w1.heap.size ≤ g') :
    Mem B w0 (qsL B p cb qb rp vb rq n lv mv vp vr gp.length gp.length (gp.map Prod.fst) (gp.map fun y => y.2.1) s s (lpV gq) (lpB gq) (lpR qb gq) (rlpR rq gq) (gp.map (pairR qb rq) ++ [pairX qb rq g g' q q])) w2 :=
  h.mem.add (pairX qb rq g g' q q) (c.trans c2 (fun _ _ e => e)) ⟨c2.blk hb id, hb2⟩ (fun k hk => by
    rcases hk with rfl | rfl
    · exact hg
    · exact Nat.le_trans c.size hg2)
theorem RunS.pushed (h : RunS B p cb qb rp vb rq n M lv mv vp vr s gp gq w0 w) (hq : PuI (M + 1) q) (hM : M + 1 ≤ 500000) (m : Mem B w0 (qsL B p cb qb rp vb rq n lv mv vp' vr' (gp.length + 1) (gp.length + 1) (gp.map Prod.fst ++ [g]) ((gp.map fun y => y.2.1) ++ [g']) s s (lpV gq) (lpB gq) (lpR qb gq) (rlpR rq gq) (gp.map (pairR qb rq) ++ [pairX qb rq g g' q q])) w') :
    RunS B p cb qb rp vb rq n (M + 1) lv mv vp' vr' s (gp ++ [(g, g', q)]) gq w0 w' := by
  have h1 := h.pm
  refine ⟨?_, h.si.mono (by omega), by simp; omega, hM, h.n1, fun k a b r hk => ?_, fun a b r e => (h.pl a b r e).mono (by omega) rfl⟩
  · rw [List.map_append, List.map_append, List.map_append, List.length_append]
    exact m
  · by_cases hl : k < gp.length
    · rw [List.getElem?_append_left hl] at hk
      exact (h.pu k a b r hk).mono (by omega)
    · rw [List.getElem?_append_right (by omega)] at hk
      have hz : k - gp.length = 0 := by
        have := (List.getElem?_eq_some_iff.1 hk).1
        simp at this; omega
      rw [hz] at hk
      have hk' : (g, g', q) = (a, b, r) := by simpa using hk
      injection hk' with e1 e2
      injection e2 with e2 e3
      rw [← e3]; exact hq
/-- A push was stepped. -/
theorem RunS.stepI (h : RunS B p cb qb rp vb rq n M lv mv vp vr s gp gq w0 w) (hk : gp[k]? = some (g, g', q)) (hM : QueueM B w1 p cb qb lv' s' (lawS n) (lpV gq)) (hb : Blk w1 g 105 (puCells qb q')) (c : Ch (fun b => FP p cb lv b ∨ b = g) w w1) (hf : Fresh w lv lv') :
    Mem B w0 (qsL B p cb qb rp vb rq n lv' mv vp vr gp.length gp.length (gp.map Prod.fst) (gp.map fun y => y.2.1) s' s (lpV gq) (lpB gq) (lpR qb gq) (rlpR rq gq) ((gp.map (pairR qb rq)).set k (pairX qb rq g g' q' q))) w1 := by
  have hp := h.push hk
  have t := h.mem.upd2 (i := 0) (j := 6 + k) (queueR B p cb qb lv' s' (lawS n) (lpV gq)) (pairX qb rq g g' q' q) rfl (qs_at (x := pairR qb rq (g, g', q)) (by simp [hk])) (by omega) c (fun i _ e => e.imp (fun e => .inl e) (fun e => .inl e)) hM
    ⟨hb, c.blk hp.2 (fun e => e.elim (not_fp h.qm.b hp.2 (by decide) (by decide) (by decide)) (fun e => hp.2.ne hp.1 (by decide) e))⟩ (fun i hi => qfp_new hf hi) (fun i hi => hi)
  have e0 : ((qsL B p cb qb rp vb rq n lv mv vp vr gp.length gp.length (gp.map Prod.fst) (gp.map fun y => y.2.1) s s (lpV gq) (lpB gq) (lpR qb gq) (rlpR rq gq) (gp.map (pairR qb rq))).set 0 (queueR B p cb qb lv' s' (lawS n) (lpV gq))) = qsL B p cb qb rp vb rq n lv' mv vp vr gp.length gp.length (gp.map Prod.fst) (gp.map fun y => y.2.1) s' s (lpV gq) (lpB gq) (lpR qb gq) (rlpR rq gq) (gp.map (pairR qb rq)) := rfl
  rw [e0, qs_set] at t
  exact t
theorem RunS.stepR (h : RunS B p cb qb rp vb rq n M lv mv vp vr s gp gq w0 w) (hk : gp[k]? = some (g, g', q)) (m : Mem B w0 (qsL B p cb qb rp vb rq n lv' mv vp vr gp.length gp.length (gp.map Prod.fst) (gp.map fun y => y.2.1) s' s (lpV gq) (lpB gq) (lpR qb gq) (rlpR rq gq) ((gp.map (pairR qb rq)).set k (pairX qb rq g g' q' q))) w1)
    (hr : RQuM B w2 rp vb rq mv' s' (lawS n) (lpB gq)) (hb : Blk w2 g' 113 (rpuCells rq q')) (c : Ch (fun b => FP rp vb mv b ∨ b = rq ∨ b = g') w1 w2) (hf : Fresh w1 mv mv') :
    Mem B w0 (qsL B p cb qb rp vb rq n lv' mv' vp vr gp.length gp.length (gp.map Prod.fst) (gp.map fun y => y.2.1) s' s' (lpV gq) (lpB gq) (lpR qb gq) (rlpR rq gq) ((gp.map (pairR qb rq)).set k (pairX qb rq g g' q' q'))) w2 := by
  have hkl := (List.getElem?_eq_some_iff.1 hk).1
  have hp : Blk w1 g 105 (puCells qb q') ∧ Blk w1 g' 113 (rpuCells rq q) := m.each (6 + k) (pairX qb rq g g' q' q) (qs_at (by simp [hkl]))
  have hm : RQuM B w1 rp vb rq mv s (lawS n) (lpB gq) := m.each 1 _ rfl
  have t := m.upd2 (i := 1) (j := 6 + k) (refqR B rp vb rq mv' s' (lawS n) (lpB gq)) (pairX qb rq g g' q' q') rfl (qs_at (x := (pairX qb rq g g' q' q)) (by simp [hkl])) (by omega) c (fun i _ e => by
    rcases e with e | e | e
    · exact .inl (.inl e)
    · exact .inl (.inr e)
    · exact .inr (.inr e)) hr
    ⟨c.blk hp.1 (fun e => by
      rcases e with e | e | e
      · exact hm.r.out hp.1 (by decide) (by decide) (by decide) e
      · exact hp.1.ne hm.fd (by decide) e
      · exact hp.1.ne hp.2 (by decide) e), hb⟩ (fun i hi => qfp_new hf hi) (fun i hi => hi)
  have e0 : ((qsL B p cb qb rp vb rq n lv' mv vp vr gp.length gp.length (gp.map Prod.fst) (gp.map fun y => y.2.1) s' s (lpV gq) (lpB gq) (lpR qb gq) (rlpR rq gq) ((gp.map (pairR qb rq)).set k (pairX qb rq g g' q' q))).set 1 (refqR B rp vb rq mv' s' (lawS n) (lpB gq))) = qsL B p cb qb rp vb rq n lv' mv' vp vr gp.length gp.length (gp.map Prod.fst) (gp.map fun y => y.2.1) s' s' (lpV gq) (lpB gq) (lpR qb gq) (rlpR rq gq) ((gp.map (pairR qb rq)).set k (pairX qb rq g g' q' q)) := rfl
  rw [e0, qs_set, List.set_set] at t
  exact t
theorem RunS.stepped (h : RunS B p cb qb rp vb rq n M lv mv vp vr s gp gq w0 w) (hk : gp[k]? = some (g, g', q)) (hM : M + 1 ≤ 500000) (e1 : pustep s (lawS n) q = (s', q'))
    (m : Mem B w0 (qsL B p cb qb rp vb rq n lv' mv' vp vr gp.length gp.length (gp.map Prod.fst) (gp.map fun y => y.2.1) s' s' (lpV gq) (lpB gq) (lpR qb gq) (rlpR rq gq) ((gp.map (pairR qb rq)).set k (pairX qb rq g g' q' q'))) w') :
    RunS B p cb qb rp vb rq n (M + 1) lv' mv' vp vr s' (gp.set k (g, g', q')) gq w0 w' := by
  obtain ⟨i1, i2, i3⟩ := pu_inv h.si (h.pu k g g' q hk) h.n1 h.hM
  rw [e1] at i1 i2 i3
  have h1 := h.pm
  refine ⟨?_, i1, by rw [List.length_set]; omega, hM, h.n1, fun j a b r hj => ?_, fun a b r e => (h.pl a b r e).mono (by omega) i3⟩
  · rw [List.length_set, map_set_same Prod.fst gp k (g, g', q) (g, g', q') hk rfl, map_set_same (fun y : Nat × Nat × Pu => y.2.1) gp k (g, g', q) (g, g', q') hk rfl, List.map_set]
    exact m
  · rw [List.getElem?_set] at hj
    split at hj
    · split at hj
      · have := Option.some.inj hj
        injection this with t1 t2
        injection t2 with t2 t3
        rw [← t3]; exact i2
      · cases hj
    · exact (h.pu j a b r hj).mono (by omega)
end

section
variable {B p cb qb rp vb rq n M g g' : Nat} {lv lv' mv mv' vp vr : Value} {s s' : BS} {gp : List (Nat × Nat × Pu)} {gq : LP} {q q' : Pl} {w0 w w1 w2 w' : World}
/-- A pull was begun. -/
theorem RunS.pullI (h : RunS B p cb qb rp vb rq n M lv mv vp vr s gp gq w0 w) (hM : QueueM B w1 p cb qb lv s (lawS n) (.pointer (some ⟨g, 0, none⟩))) (hb : Blk w1 g 109 (plCells qb q)) (c : Ch (fun b => b = qb) w w1) (hg : w.heap.size ≤ g) :
    Mem B w0 (qsL B p cb qb rp vb rq n lv mv vp vr gp.length gp.length (gp.map Prod.fst) (gp.map fun y => y.2.1) s s (.pointer (some ⟨g, 0, none⟩)) (lpB gq) (blkR g 109 (plCells qb q)) (rlpR rq gq) (gp.map (pairR qb rq))) w1 :=
  h.mem.upd2 (i := 2) (j := 0) (blkR g 109 (plCells qb q)) (queueR B p cb qb lv s (lawS n) (.pointer (some ⟨g, 0, none⟩))) rfl rfl (by decide) c (fun i _ e => .inr (.inr e)) hb hM (fun i hi => .inr (by rw [show i = g from hi]; exact hg)) (fun i hi => hi)
theorem RunS.pullR (m : Mem B w0 (qsL B p cb qb rp vb rq n lv mv vp vr gp.length gp.length (gp.map Prod.fst) (gp.map fun y => y.2.1) s s (.pointer (some ⟨g, 0, none⟩)) (lpB gq) (blkR g 109 (plCells qb q)) (rlpR rq gq) (gp.map (pairR qb rq))) w1) (hr : RQuM B w2 rp vb rq mv s (lawS n) true) (hb : Blk w2 g' 115 (rplCells rq q)) (c : Ch (fun b => b = rq) w1 w2) (hg : w1.heap.size ≤ g') :
    Mem B w0 (qsL B p cb qb rp vb rq n lv mv vp vr gp.length gp.length (gp.map Prod.fst) (gp.map fun y => y.2.1) s s (.pointer (some ⟨g, 0, none⟩)) true (blkR g 109 (plCells qb q)) (blkR g' 115 (rplCells rq q)) (gp.map (pairR qb rq))) w2 :=
  m.upd2 (i := 3) (j := 1) (blkR g' 115 (rplCells rq q)) (refqR B rp vb rq mv s (lawS n) true) rfl rfl (by decide) c (fun i _ e => .inr (.inr e)) hb hr (fun i hi => .inr (by rw [show i = g' from hi]; exact hg)) (fun i hi => hi)
theorem RunS.pulled (h : RunS B p cb qb rp vb rq n M lv mv vp vr s gp gq w0 w) (hq : PlI M n s q) (hz : (q.ph != 0) = true)
    (m : Mem B w0 (qsL B p cb qb rp vb rq n lv mv vp vr gp.length gp.length (gp.map Prod.fst) (gp.map fun y => y.2.1) s s (.pointer (some ⟨g, 0, none⟩)) true (blkR g 109 (plCells qb q)) (blkR g' 115 (rplCells rq q)) (gp.map (pairR qb rq))) w') : RunS B p cb qb rp vb rq n M lv mv vp vr s gp (some (g, g', q)) w0 w' := by
  refine ⟨?_, h.si, h.pm, h.hM, h.n1, h.pu, fun a b r e => ?_⟩
  · have e1 : lpB (some (g, g', q)) = true := hz
    rw [e1]
    exact m
  · have := Option.some.inj e
    injection this with t1 t2
    injection t2 with t2 t3
    rw [← t3]; exact hq
/-- A pull was stepped. -/
theorem RunS.lstepI (h : RunS B p cb qb rp vb rq n M lv mv vp vr s gp gq w0 w) (hgq : gq = some (g, g', q)) (hM : QueueM B w1 p cb qb lv' s' (lawS n) (lpV gq)) (hb : Blk w1 g 109 (plCells qb q')) (c : Ch (fun b => FP p cb lv b ∨ b = g) w w1) (hf : Fresh w lv lv') :
    Mem B w0 (qsL B p cb qb rp vb rq n lv' mv vp vr gp.length gp.length (gp.map Prod.fst) (gp.map fun y => y.2.1) s' s (lpV gq) (lpB gq) (blkR g 109 (plCells qb q')) (rlpR rq gq) (gp.map (pairR qb rq))) w1 := by
  subst hgq
  exact h.mem.upd2 (i := 0) (j := 2) (queueR B p cb qb lv' s' (lawS n) (lpV (some (g, g', q)))) (blkR g 109 (plCells qb q')) rfl rfl (by decide) c (fun i _ e => e.imp (fun e => .inl e) id) hM hb (fun i hi => qfp_new hf hi) (fun i hi => hi)
theorem RunS.lstepR (hgq : gq = some (g, g', q)) (m : Mem B w0 (qsL B p cb qb rp vb rq n lv' mv vp vr gp.length gp.length (gp.map Prod.fst) (gp.map fun y => y.2.1) s' s (lpV gq) (lpB gq) (blkR g 109 (plCells qb q')) (rlpR rq gq) (gp.map (pairR qb rq))) w1)
    (hr : RQuM B w2 rp vb rq mv' s' (lawS n) (q'.ph != 0)) (hb : Blk w2 g' 115 (rplCells rq q')) (c : Ch (fun b => FP rp vb mv b ∨ b = rq ∨ b = g') w1 w2) (hf : Fresh w1 mv mv') :
    Mem B w0 (qsL B p cb qb rp vb rq n lv' mv' vp vr gp.length gp.length (gp.map Prod.fst) (gp.map fun y => y.2.1) s' s' (lpV gq) (q'.ph != 0) (blkR g 109 (plCells qb q')) (blkR g' 115 (rplCells rq q')) (gp.map (pairR qb rq))) w2 := by
  subst hgq
  exact m.upd2 (i := 1) (j := 3) (refqR B rp vb rq mv' s' (lawS n) (q'.ph != 0)) (blkR g' 115 (rplCells rq q')) rfl rfl (by decide) c (fun i _ e => by
    rcases e with e | e | e
    · exact .inl (.inl e)
    · exact .inl (.inr e)
    · exact .inr e) hr hb (fun i hi => qfp_new hf hi) (fun i hi => hi)
theorem RunS.lstepped (h : RunS B p cb qb rp vb rq n M lv mv vp vr s gp gq w0 w) (hgq : gq = some (g, g', q)) (hM : M + 1 ≤ 500000) (e1 : plstep s (lawS n) q = (s', q'))
    (m : Mem B w0 (qsL B p cb qb rp vb rq n lv' mv' vp vr gp.length gp.length (gp.map Prod.fst) (gp.map fun y => y.2.1) s' s' (lpV gq) (q'.ph != 0) (blkR g 109 (plCells qb q')) (blkR g' 115 (rplCells rq q')) (gp.map (pairR qb rq))) w') :
    RunS B p cb qb rp vb rq n (M + 1) lv' mv' vp vr s' gp (some (g, g', q')) w0 w' := by
  subst hgq
  obtain ⟨i1, i2⟩ := pl_inv h.si (h.pl g g' q rfl) h.n1 h.hM
  rw [e1] at i1 i2
  have h1 := h.pm
  refine ⟨m, i1, by omega, hM, h.n1, fun j a b r hj => (h.pu j a b r hj).mono (by omega), fun a b r e => ?_⟩
  have := Option.some.inj e
  injection this with t1 t2
  injection t2 with t2 t3
  rw [← t3]; exact i2
theorem RunS.rests (h : RunS B p cb qb rp vb rq n M lv mv vp vr s gp gq w0 w) (hz : lpB gq = false) : Rests w qb (lpV gq) := by
  match gq, h, hz with
  | none, _, _ => exact .inl rfl
  | some (g, g', q), h, hz =>
    right
    refine ⟨g, q, rfl, h.mem.each 2 _ rfl, ?_⟩
    rw [(h.pl g g' q rfl).fin]
    have : (q.ph != 0) = false := hz
    simpa using this
end
end Go.Proofs.Ytpkjjlahmjijnaa
