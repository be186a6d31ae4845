/- The reference's epoch: memory, all but the steps. -/
import Derived.Test.YtokcodeeaneeaaaEpB
namespace Go.Proofs.Ytokcodeeaneeaaa
open Go.RowKit
set_option linter.unusedVariables false
set_option linter.unusedSimpArgs false
set_option linter.unusedSectionVars false

def intsA (l : List Int) : Array Value := (l.map (Value.int .i64)).toArray
theorem intsA_at {l : List Int} {k : Nat} (h : k < l.length) : (intsA l)[k]? = some (.int .i64 (lk l k)) := by simp [intsA, lk, h]
theorem intsA_set (l : List Int) (k : Nat) (v : Int) : (intsA l).setIfInBounds k (.int .i64 v) = intsA (l.set k v) := by simp [intsA, List.map_set]
def redCells (rp stb : Nat) (f : Ed) (sl : Int) (scn : Bool) : Array Value := #[.pointer (some ⟨rp, 0, none⟩), .int .i64 f.ep, .int .i64 sl, .int .i64 f.n, .slice (some ⟨stb, 0, none⟩) f.n f.n, .bool scn]
def rpnCells (rq : Nat) (q : Pn) : Array Value := #[.pointer (some ⟨rq, 0, none⟩), .int .i64 q.t, .int .i64 q.slot, .int .u64 q.seen, .int .u8 q.ph]
def rsnCells (rq : Nat) (q : Sn) (a : Int) : Array Value := #[.pointer (some ⟨rq, 0, none⟩), .int .i64 q.t, .int .i64 a, .int .u8 q.ph, .bool q.adv]

theorem blk_set_new (w : World) (a : Addr) (u : Value) (t : TypeId) (cs : Array Value) : Blk ((w.setCell a u).alloc (.cells cs t)) w.heap.size t cs := by
  have h := Blk.new (w.setCell a u) t cs
  have e : (w.setCell a u).heap.size = w.heap.size := by simp [World.setCell]
  rw [e] at h
  exact h
def snBegR (f : Ed) (q : Sn) : Sn := { q with ph := if q.at' < f.n then 34 else 35 }
def snResR (q : Sn) : Bool × Int := if q.ph = 0 then (q.adv, 0) else (false, 8)
/-- The reference's epoch in memory. -/
structure REpM (B : Nat) (w : World) (rp vb rq stb : Nat) (mv : Value) (s : BS) (f : Ed) (sl : Int) (st : List Int) (scn : Bool) : Prop where
  r : RBank B w rp vb mv s.vs s.lg
  fd : Blk w rq 111 (redCells rp stb f sl scn)
  sb : Blk w stb 3 (intsA st)
  ok : EdOk s f
  sl : f.n = 0 ∨ sl = f.sl
  ls : st.length = f.n
  bq : B ≤ rq
  bs : B ≤ stb
section
variable {B rp vb rq stb g : Nat} {t : TypeId} {mv mv' : Value} {s s' : BS} {f : Ed} {sl : Int} {st st' : List Int} {scn scn' : Bool} {cs cs' : Array Value} {w w1 w' : World}
theorem REpM.keep (h : REpM B w rp vb rq stb mv s f sl st scn) (c : Ch (fun _ => False) w w') : REpM B w' rp vb rq stb mv s f sl st scn :=
  ⟨h.r.ch c id id (fun _ _ => id), c.blk h.fd id, c.blk h.sb id, h.ok, h.sl, h.ls, h.bq, h.bs⟩
theorem REpM.drewN (h : REpM B w rp vb rq stb mv s f sl st scn) (n : Nat) : REpM B (w.drewN n) rp vb rq stb mv s f sl st scn := h.keep ((Ch.refl _ w).drewN n)
theorem REpM.ch {fp : Nat → Prop} (h : REpM B w rp vb rq stb mv s f sl st scn) (c : Ch fp w w') (h1 : ∀ k, FP rp vb mv k ∨ k = rq ∨ k = stb → ¬ fp k) : REpM B w' rp vb rq stb mv s f sl st scn :=
  ⟨h.r.ch c (h1 _ (.inl (.inl rfl))) (h1 _ (.inl (.inr (.inl rfl)))) (fun k hk => h1 k (.inl (.inr (.inr hk)))), c.blk h.fd (h1 _ (.inr (.inl rfl))), c.blk h.sb (h1 _ (.inr (.inr rfl))), h.ok, h.sl, h.ls, h.bq, h.bs⟩
theorem rbank_drew {vs : List Int} {lg : List Acc} (h : RBank B w rp vb mv vs lg) (n : Nat) : RBank B (w.drewN n) rp vb mv vs lg := h.ch ((Ch.refl (fun _ => False) w).drewN n) id id (fun _ _ => id)
/-- What a call leaves: g is the operation's block, t its type. -/
def RRes (B rp vb rq stb g : Nat) (t : TypeId) (mv : Value) (f : Ed) (sl : Int) (s' : BS) (st' : List Int) (scn' : Bool) (cs' : Array Value) (w : World) (ret : Value) (e : Ending) (w' : World) : Prop :=
  e = .returned ret ∧ ∃ mv', REpM B w' rp vb rq stb mv' s' f sl st' scn' ∧ Blk w' g t cs' ∧ Ch (fun b => FP rp vb mv b ∨ b = rq ∨ b = stb ∨ b = g) w w' ∧ Fresh w mv mv'
theorem rafter {n : Nat} (h : REpM B w rp vb rq stb mv s f sl st scn) (hq : Blk w g t cs) (hs : RStep B (w.drewN n) w1 rp vb mv s') (h1 : t ≠ 73 := by decide) (h2 : t ≠ 22 := by decide) (h3 : t ≠ 128 := by decide) :
    ∃ mv', RBank B w1 rp vb mv' s'.vs s'.lg ∧ Ch (FP rp vb mv) w w1 ∧ Fresh w mv mv' ∧ Blk w1 rq 111 (redCells rp stb f sl scn) ∧ Blk w1 stb 3 (intsA st) ∧ Blk w1 g t cs := by
  obtain ⟨mv', hb, hc, hf⟩ := hs
  have c1 : Ch (FP rp vb mv) w w1 := hc.ofDrewN
  exact ⟨mv', hb, c1, hf, c1.blk h.fd (h.r.out h.fd (by decide) (by decide) (by decide)), c1.blk h.sb (h.r.out h.sb (by decide) (by decide) (by decide)), c1.blk hq (h.r.out hq h1 h2 h3)⟩
theorem rres_close {ret : Value} (h : REpM B w rp vb rq stb mv s f sl st scn) (hb1 : RBank B w1 rp vb mv' s'.vs s'.lg) (hc1 : Ch (FP rp vb mv) w w1) (hf1 : Fresh w mv mv') (hfd : Blk w1 rq 111 (redCells rp stb f sl scn)) (hsb : Blk w1 stb 3 (intsA st)) (hqd : Blk w1 g t cs) (hl : s'.vs.length = s.vs.length) (hst : st'.length = st.length)
    (c2 : Ch (fun b => b = rq ∨ b = stb ∨ b = g) w1 w') (hfd' : Blk w' rq 111 (redCells rp stb f sl scn')) (hsb' : Blk w' stb 3 (intsA st')) (hq' : Blk w' g t cs') (h1 : t ≠ 73 := by decide) (h2 : t ≠ 22 := by decide) (h3 : t ≠ 128 := by decide) :
    RRes B rp vb rq stb g t mv f sl s' st' scn' cs' w ret (.returned ret) w' := by
  have n1 := hb1.out hfd (by decide) (by decide) (by decide)
  have n2 := hb1.out hsb (by decide) (by decide) (by decide)
  have n3 := hb1.out hqd h1 h2 h3
  have key : ∀ k, FP rp vb mv' k → ¬ (k = rq ∨ k = stb ∨ k = g) := by
    rintro k hk (e | e | e)
    · exact n1 (e ▸ hk)
    · exact n2 (e ▸ hk)
    · exact n3 (e ▸ hk)
  exact ⟨rfl, mv', ⟨hb1.ch c2 (key _ (.inl rfl)) (key _ (.inr (.inl rfl))) (fun k hk => key k (.inr (.inr hk))), hfd', hsb', h.ok.of hl, h.sl, by rw [hst]; exact h.ls, h.bq, h.bs⟩, hq', (hc1.mono fun _ _ h => .inl h).trans c2 (fun _ _ h => .inr h), hf1⟩
end

theorem repm_sb {B rp vb rq stb : Nat} {mv : Value} {s : BS} {f : Ed} {sl : Int} {st : List Int} {scn : Bool} {w : World} (h : REpM B w rp vb rq stb mv s f sl st scn) (k : Nat) (v : Int) : REpM B (w.setCell ⟨stb, k, none⟩ (.int .i64 v)) rp vb rq stb mv s f sl (st.set k v) scn := by
  have c : Ch (fun b => b = stb) w (w.setCell ⟨stb, k, none⟩ (.int .i64 v)) := (Ch.refl (fun b => b = stb) w).set (fun _ => rfl) _
  have n1 := h.r.out h.sb (by decide) (by decide) (by decide)
  exact ⟨h.r.ch c (fun e => n1 (.inl e.symm)) (fun e => n1 (.inr (.inl e.symm))) (fun k hk e => n1 (.inr (.inr (by rw [← e]; exact hk)))), c.blk h.fd (fun e => h.fd.ne h.sb (by decide) e), by rw [← intsA_set]; exact h.sb.put k _, h.ok, h.sl, by rw [List.length_set]; exact h.ls, h.bq, h.bs⟩
theorem repm_sc {B rp vb rq stb : Nat} {mv : Value} {s : BS} {f : Ed} {sl : Int} {st : List Int} {scn : Bool} {w : World} (h : REpM B w rp vb rq stb mv s f sl st scn) (v : Bool) : REpM B (w.setCell ⟨rq, 5, none⟩ (.bool v)) rp vb rq stb mv s f sl st v := by
  have c : Ch (fun b => b = rq) w (w.setCell ⟨rq, 5, none⟩ (.bool v)) := (Ch.refl (fun b => b = rq) w).set (fun _ => rfl) _
  have n1 := h.r.out h.fd (by decide) (by decide) (by decide)
  exact ⟨h.r.ch c (fun e => n1 (.inl e.symm)) (fun e => n1 (.inr (.inl e.symm))) (fun k hk e => n1 (.inr (.inr (by rw [← e]; exact hk)))), h.fd.put 5 _, c.blk h.sb (fun e => h.fd.ne h.sb (by decide) e.symm), h.ok, h.sl, h.ls, h.bq, h.bs⟩

section
variable (B rp vb rq stb : Nat) (mv : Value) (s : BS) (f : Ed) (sl : Int) (st : List Int) (scn : Bool) (w : World) (h : REpM B w rp vb rq stb mv s f sl st scn)
include h
set_option maxHeartbeats 400000 in
theorem rnow_any : Calls Try.prog 35 #[.pointer (some ⟨rq, 0, none⟩)] w fun e w' => e = .returned (.int .u64 (lk s.vs f.ep)) ∧ ∃ n, w' = w.drewN n := by
  have b0 : w.cell? ⟨rq, 0, none⟩ = some (.pointer (some ⟨rp, 0, none⟩)) := h.fd.cell 0
  have b1 : w.cell? ⟨rq, 1, none⟩ = some (.int .i64 f.ep) := h.fd.cell 1
  have r0 : w.cell? ⟨rp, 0, none⟩ = some (.slice (some ⟨vb, 0, none⟩) s.vs.length s.vs.length) := h.r.hp.cell 0
  have he := h.ok.e
  have hv : w.cell? ⟨vb, f.ep, none⟩ = some (.int .u64 (lk s.vs f.ep)) := (h.r.hc.cell f.ep).trans (u64s_getD s.vs f.ep he)
  have d1 : decide (f.ep < s.vs.length) = true := decide_eq_true he
  clear h
  go_enter Try.func35, Try.ntmps35
  go_wp2_with fail
  go_quiet (fail)
  go_wp2_with fail
  go_ret
  exact ⟨rfl, _, rfl⟩
end

set_option maxRecDepth 100000 in
set_option maxHeartbeats 1000000 in
theorem rpinned_any (B rp vb rq stb : Nat) (mv : Value) (s : BS) (f : Ed) (sl : Int) (st : List Int) (scn : Bool) (w : World) (h : REpM B w rp vb rq stb mv s f sl st scn) :
    Calls Try.prog 37 #[.pointer (some ⟨rq, 0, none⟩)] w fun e w' => FreshInts w w' (pinL s f f.n) e := by
  obtain ⟨i0, hi, hz0, hz1, hz2⟩ := info_parts (show (Try.prog.info? 3).map (fun i => (i.zero, i.size, i.bytes)) = some (some (.int .i64 0), 1, 8) by kernel_rfl)
  have hn := h.ok.n
  go_enter Try.func37, Try.ntmps37
  go_wp2_with fail
  go_loopw [3, 4] (fun v i wr => ∃ j : Nat, j ≤ f.n ∧ i = .int .i64 j ∧ wr.ownsRow w.heap.size 3 1 v (pinL s f j).length ((pinL s f j).map (Value.int .i64)) ∧ Ch (fun _ => False) w wr) (fun _ i _ => f.n - (intOf i).toNat)
  case atStart => exact ⟨0, by omega, rfl, (by simpa [pinL] using World.ownsRow_nil w w.heap.size 3 1), Ch.refl _ _⟩
  case round =>
    obtain ⟨j, hj, rfl, hown, hch⟩ := hrel
    obtain ⟨A0, cap0, hv0, _⟩ := own_slice hown
    subst hv0
    have hF := h.keep hch
    have b3 : wr.cell? ⟨rq, 3, none⟩ = some (.int .i64 f.n) := hF.fd.cell 3
    by_cases hlt : j < f.n
    · have d1 : decide (j < f.n) = true := decide_eq_true hlt
      have d1' : decide ((j : Int) < (f.n : Int)) = true := decide_eq_true (by omega)
      have b0 : wr.cell? ⟨rq, 0, none⟩ = some (.pointer (some ⟨rp, 0, none⟩)) := hF.fd.cell 0
      have b2 : wr.cell? ⟨rq, 2, none⟩ = some (.int .i64 sl) := hF.fd.cell 2
      have r0 : wr.cell? ⟨rp, 0, none⟩ = some (.slice (some ⟨vb, 0, none⟩) s.vs.length s.vs.length) := hF.r.hp.cell 0
      obtain ⟨s0, s1⟩ := hF.ok.s j hlt
      have hlen := hF.r.hn
      have hple := pinL_le s f j
      have hsl : sl = f.sl := by
        rcases hF.sl with e | e
        · omega
        · exact e
      obtain ⟨c, hc⟩ := Int.eq_ofNat_of_zero_le s0
      have hcl : c < s.vs.length := by omega
      have dc : decide (c < s.vs.length) = true := decide_eq_true hcl
      have hwr : IntKind.i64.wrap (sl + (j : Int)) = (c : Int) := by rw [hsl, hc]; exact IntWalk.i64_in _ (by omega)
      have hv : wr.cell? ⟨vb, c, none⟩ = some (.int .u64 (lk s.vs c)) := (hF.r.hc.cell c).trans (u64s_getD s.vs c hcl)
      obtain ⟨x, hx⟩ : ∃ x, x = lk s.vs c := ⟨_, rfl⟩
      rw [← hx] at hv
      have hsu := pinL_succ s f j
      rw [hc, Int.toNat_natCast, ← hx] at hsu
      have HSU := hid hsu
      clear hF s0 s1 hsu hc hx hsl
      go_wp2_with fail
      go_quiet (fail)
      have hch1 : Ch (fun _ => False) w (wr.drewN nq) := hch.drewN nq
      have hown1 : (wr.drewN nq).ownsRow w.heap.size 3 1 (.slice A0 (pinL s f j).length cap0) (pinL s f j).length ((pinL s f j).map (Value.int .i64)) := ((Ch.refl (fun _ => False) wr).drewN nq).own hown (fun _ _ => id)
      clear hown b0 b2 b3 r0 hv hwr
      by_cases hx0 : x = 0
      · have HX := hid hx0
        subst hx0
        go_wp2_with fail
        go_roundw
        case rel => exact ⟨j + 1, by omega, by go_num, by rw [HSU.out, if_pos rfl, List.append_nil]; exact hown1, hch1⟩
        case measure => simp [intOf]; omega
      · have hxb : (x != 0) = true := by simpa using hx0
        have HX := hid hx0
        clear hx0
        obtain ⟨m, hm⟩ : ∃ m, m = (pinL s f j).length := ⟨_, rfl⟩
        rw [← hm] at hown1 hple ⊢
        have HM := hid hm
        clear hm
        go_wp2_with (at_builtin; refine wpList_app _ rfl (.tmp 32) (.tmp 34) 41 rfl w.heap.size 3 i0 _ 1 8 Try.underlying41 hi hz0 hz1 hz2 rfl (by decide) _ _ _ rfl (hown1.alloc _) ⟨wr.heap.size, 0, none⟩ 1 1 [.int .i64 j] rfl rfl ?c1 ?c2 (by decide) ?c3 ?c4 ?c5 ?c6)
        case c1 => intro j' u hu; rw [addr_add0]; exact ((Blk.new (wr.drewN nq) 3 #[.int .i64 j]).cell j').trans (by simpa using hu)
        case c2 => intro u hu; simp at hu; subst hu; rfl
        case c3 => unfold maxLen; omega
        case c4 => omega
        case c5 => exact Nat.le_trans hch.size (by simp)
        case c6 =>
          intro v' w' hown' hgrow hfresh
          have hch' : Ch (fun _ => False) w w' := (hch1.alloc _).grown hgrow (fun g hg hlt => (Nat.lt_irrefl _ (Nat.lt_of_lt_of_le hlt (hown1.lt g hg).1)).elim)
          go_wp2_with fail
          go_roundw
          case rel => exact ⟨j + 1, by omega, by go_num, by rw [HSU.out, if_neg HX.out, List.map_append, List.length_append, ← HM.out]; exact hown', hch'⟩
          case measure => simp [intOf]; omega
    · obtain rfl : j = f.n := by omega
      have d1 : decide (f.n < f.n) = false := decide_eq_false (by omega)
      have d1' : decide ((f.n : Int) < (f.n : Int)) = false := decide_eq_false (by omega)
      go_wp2_with fail
      go_ret
      exact ⟨_, rfl, hown, hch⟩

section
variable (B rp vb rq stb : Nat) (mv : Value) (s : BS) (f : Ed) (sl : Int) (st : List Int) (scn : Bool) (w : World) (h : REpM B w rp vb rq stb mv s f sl st scn) (t : Int)
include h
theorem rpin_bad (k : Int) (hb : ckerr f t k ≠ 0) : Calls Try.prog 20 #[.pointer (some ⟨rq, 0, none⟩), .int .i64 t, .int .i64 k] w fun e w' => e = .returned (.tuple #[.pointer none, .int .i64 (ckerr f t k)]) ∧ w = w' := by
  have b3 : w.cell? ⟨rq, 3, none⟩ = some (.int .i64 f.n) := h.fd.cell 3
  clear h
  unfold ckerr at hb ⊢
  by_cases hc : t < 0
  · have dc : decide (t < 0) = true := decide_eq_true hc
    rw [if_pos (.inl hc)]
    clear hb
    go_enter Try.func20, Try.ntmps20
    go_wp2_with fail
    go_ret2
    exact ⟨rfl, rfl⟩
  have d362 : decide (t < 0) = false := decide_eq_false hc
  by_cases hc : 16 ≤ t
  · have dc : decide (16 ≤ t) = true := decide_eq_true hc
    rw [if_pos (.inr hc)]
    clear hb
    go_enter Try.func20, Try.ntmps20
    go_wp2_with fail
    go_ret2
    exact ⟨rfl, rfl⟩
  have d698 : decide (16 ≤ t) = false := decide_eq_false hc
  rw [if_neg (by omega)] at hb ⊢
  by_cases hc : k < 0
  · have dc : decide (k < 0) = true := decide_eq_true hc
    rw [if_pos (.inl hc)]
    clear hb
    go_enter Try.func20, Try.ntmps20
    go_wp2_with fail
    go_ret2
    exact ⟨rfl, rfl⟩
  have d1037 : decide (k < 0) = false := decide_eq_false hc
  by_cases hc : (f.n : Int) ≤ k
  · have dc : decide ((f.n : Int) ≤ k) = true := decide_eq_true hc
    rw [if_pos (.inr hc)]
    clear hb
    go_enter Try.func20, Try.ntmps20
    go_wp2_with fail
    go_ret2
    exact ⟨rfl, rfl⟩
  have d1407 : decide ((f.n : Int) ≤ k) = false := decide_eq_false hc
  rw [if_neg (by omega)] at hb
  exact absurd rfl hb
set_option maxHeartbeats 400000 in
theorem rpin_have (k : Nat) (hb : ckerr f t k = 0) (hz : lk st k ≠ 0) : Calls Try.prog 20 #[.pointer (some ⟨rq, 0, none⟩), .int .i64 t, .int .i64 k] w fun e w' => e = .returned (.tuple #[.pointer none, .int .i64 9]) ∧ w = w' := by
  have ht : 0 ≤ t ∧ t < 16 ∧ k < f.n := by
    unfold ckerr at hb
    split at hb
    · cases hb
    · split at hb
      · cases hb
      · omega
  obtain ⟨ht0, ht1, hkn⟩ := ht
  have e1 : decide (t < 0) = false := decide_eq_false (by omega)
  have e2 : decide (16 ≤ t) = false := decide_eq_false (by omega)
  have e4 : decide ((f.n : Int) ≤ (k : Int)) = false := decide_eq_false (by omega)
  have e4' : decide (f.n ≤ k) = false := decide_eq_false (by omega)
  have e5 : decide (k < f.n) = true := decide_eq_true hkn
  have b3 : w.cell? ⟨rq, 3, none⟩ = some (.int .i64 f.n) := h.fd.cell 3
  have b4 : w.cell? ⟨rq, 4, none⟩ = some (.slice (some ⟨stb, 0, none⟩) f.n f.n) := h.fd.cell 4
  have hks : k < st.length := by rw [h.ls]; exact hkn
  have ck : w.cell? ⟨stb, k, none⟩ = some (.int .i64 (lk st k)) := (h.sb.cell k).trans (intsA_at hks)
  have fk := h.sb.free k
  have bz : (lk st k != 0) = true := by rw [bne_iff_ne]; exact hz
  clear hb hz h hks
  go_enter Try.func20, Try.ntmps20
  go_wp2_with fail
  go_ret2
  exact ⟨rfl, rfl⟩
/-- A pin was begun. -/
def RPnBegun (B rp vb rq stb : Nat) (mv : Value) (s : BS) (f : Ed) (sl : Int) (st : List Int) (scn : Bool) (k : Nat) (t : Int) (w : World) (e : Ending) (w' : World) : Prop :=
  ∃ g, e = .returned (.tuple #[.pointer (some ⟨g, 0, none⟩), .int .i64 0]) ∧ REpM B w' rp vb rq stb mv s f sl (st.set k 1) scn ∧ Blk w' g 120 (rpnCells rq ⟨t, k, 0, 9⟩) ∧ Ch (fun b => b = stb) w w' ∧ w.heap.size ≤ g
set_option maxHeartbeats 400000 in
theorem rpin_ok (k : Nat) (hb : ckerr f t k = 0) (hz : lk st k = 0) : Calls Try.prog 20 #[.pointer (some ⟨rq, 0, none⟩), .int .i64 t, .int .i64 k] w (RPnBegun B rp vb rq stb mv s f sl st scn k t w) := by
  have ht : 0 ≤ t ∧ t < 16 ∧ k < f.n := by
    unfold ckerr at hb
    split at hb
    · cases hb
    · split at hb
      · cases hb
      · omega
  obtain ⟨ht0, ht1, hkn⟩ := ht
  have e1 : decide (t < 0) = false := decide_eq_false (by omega)
  have e2 : decide (16 ≤ t) = false := decide_eq_false (by omega)
  have e4 : decide ((f.n : Int) ≤ (k : Int)) = false := decide_eq_false (by omega)
  have e4' : decide (f.n ≤ k) = false := decide_eq_false (by omega)
  have e5 : decide (k < f.n) = true := decide_eq_true hkn
  have b3 : w.cell? ⟨rq, 3, none⟩ = some (.int .i64 f.n) := h.fd.cell 3
  have b4 : w.cell? ⟨rq, 4, none⟩ = some (.slice (some ⟨stb, 0, none⟩) f.n f.n) := h.fd.cell 4
  have hks : k < st.length := by rw [h.ls]; exact hkn
  have ck : w.cell? ⟨stb, k, none⟩ = some (.int .i64 (lk st k)) := (h.sb.cell k).trans (intsA_at hks)
  have fk := h.sb.free k
  rw [hz] at ck
  have nq := h.fd.ne h.sb (by decide)
  have nq' := Ne.symm nq
  have H := hid h
  clear hb hz h hks
  go_enter Try.func20, Try.ntmps20
  go_wp2_with fail
  go_ret2
  exact ⟨_, rfl, (repm_sb H.out k 1).keep ((Ch.refl _ _).alloc _), blk_set_new _ _ _ _ _, ((Ch.refl (fun b => b = stb) w).set (fun _ => rfl) _).alloc _, by simp⟩
theorem runpin_bad (k : Int) (hb : ckerr f t k ≠ 0) : Calls Try.prog 26 #[.pointer (some ⟨rq, 0, none⟩), .int .i64 t, .int .i64 k] w fun e w' => e = .returned (.int .i64 (ckerr f t k)) ∧ w = w' := by
  have b3 : w.cell? ⟨rq, 3, none⟩ = some (.int .i64 f.n) := h.fd.cell 3
  clear h
  unfold ckerr at hb ⊢
  by_cases hc : t < 0
  · have dc : decide (t < 0) = true := decide_eq_true hc
    rw [if_pos (.inl hc)]
    clear hb
    go_enter Try.func26, Try.ntmps26
    go_wp2_with fail
    go_ret
    exact ⟨rfl, rfl⟩
  have d341 : decide (t < 0) = false := decide_eq_false hc
  by_cases hc : 16 ≤ t
  · have dc : decide (16 ≤ t) = true := decide_eq_true hc
    rw [if_pos (.inr hc)]
    clear hb
    go_enter Try.func26, Try.ntmps26
    go_wp2_with fail
    go_ret
    exact ⟨rfl, rfl⟩
  have d680 : decide (16 ≤ t) = false := decide_eq_false hc
  rw [if_neg (by omega)] at hb ⊢
  by_cases hc : k < 0
  · have dc : decide (k < 0) = true := decide_eq_true hc
    rw [if_pos (.inl hc)]
    clear hb
    go_enter Try.func26, Try.ntmps26
    go_wp2_with fail
    go_ret
    exact ⟨rfl, rfl⟩
  have d1022 : decide (k < 0) = false := decide_eq_false hc
  by_cases hc : (f.n : Int) ≤ k
  · have dc : decide ((f.n : Int) ≤ k) = true := decide_eq_true hc
    rw [if_pos (.inr hc)]
    clear hb
    go_enter Try.func26, Try.ntmps26
    go_wp2_with fail
    go_ret
    exact ⟨rfl, rfl⟩
  have d1395 : decide ((f.n : Int) ≤ k) = false := decide_eq_false hc
  rw [if_neg (by omega)] at hb
  exact absurd rfl hb
set_option maxHeartbeats 400000 in
theorem runpin_none (k : Nat) (hb : ckerr f t k = 0) (hz : lk st k = 0) : Calls Try.prog 26 #[.pointer (some ⟨rq, 0, none⟩), .int .i64 t, .int .i64 k] w fun e w' => e = .returned (.int .i64 7) ∧ w = w' := by
  have ht : 0 ≤ t ∧ t < 16 ∧ k < f.n := by
    unfold ckerr at hb
    split at hb
    · cases hb
    · split at hb
      · cases hb
      · omega
  obtain ⟨ht0, ht1, hkn⟩ := ht
  have e1 : decide (t < 0) = false := decide_eq_false (by omega)
  have e2 : decide (16 ≤ t) = false := decide_eq_false (by omega)
  have e4 : decide ((f.n : Int) ≤ (k : Int)) = false := decide_eq_false (by omega)
  have e4' : decide (f.n ≤ k) = false := decide_eq_false (by omega)
  have e5 : decide (k < f.n) = true := decide_eq_true hkn
  have b3 : w.cell? ⟨rq, 3, none⟩ = some (.int .i64 f.n) := h.fd.cell 3
  have b4 : w.cell? ⟨rq, 4, none⟩ = some (.slice (some ⟨stb, 0, none⟩) f.n f.n) := h.fd.cell 4
  have hks : k < st.length := by rw [h.ls]; exact hkn
  have ck : w.cell? ⟨stb, k, none⟩ = some (.int .i64 (lk st k)) := (h.sb.cell k).trans (intsA_at hks)
  have fk := h.sb.free k
  rw [hz] at ck
  clear hb hz h hks
  go_enter Try.func26, Try.ntmps26
  go_wp2_with fail
  go_ret
  exact ⟨rfl, rfl⟩
set_option maxHeartbeats 400000 in
theorem runpin_state (k : Nat) (hb : ckerr f t k = 0) (hz : lk st k = 1) : Calls Try.prog 26 #[.pointer (some ⟨rq, 0, none⟩), .int .i64 t, .int .i64 k] w fun e w' => e = .returned (.int .i64 8) ∧ w = w' := by
  have ht : 0 ≤ t ∧ t < 16 ∧ k < f.n := by
    unfold ckerr at hb
    split at hb
    · cases hb
    · split at hb
      · cases hb
      · omega
  obtain ⟨ht0, ht1, hkn⟩ := ht
  have e1 : decide (t < 0) = false := decide_eq_false (by omega)
  have e2 : decide (16 ≤ t) = false := decide_eq_false (by omega)
  have e4 : decide ((f.n : Int) ≤ (k : Int)) = false := decide_eq_false (by omega)
  have e4' : decide (f.n ≤ k) = false := decide_eq_false (by omega)
  have e5 : decide (k < f.n) = true := decide_eq_true hkn
  have b3 : w.cell? ⟨rq, 3, none⟩ = some (.int .i64 f.n) := h.fd.cell 3
  have b4 : w.cell? ⟨rq, 4, none⟩ = some (.slice (some ⟨stb, 0, none⟩) f.n f.n) := h.fd.cell 4
  have hks : k < st.length := by rw [h.ls]; exact hkn
  have ck : w.cell? ⟨stb, k, none⟩ = some (.int .i64 (lk st k)) := (h.sb.cell k).trans (intsA_at hks)
  have fk := h.sb.free k
  rw [hz] at ck
  clear hb hz h hks
  go_enter Try.func26, Try.ntmps26
  go_wp2_with fail
  go_ret
  exact ⟨rfl, rfl⟩
/-- A slot was cleared. -/
def RUnpinned (B rp vb rq stb : Nat) (mv : Value) (s' : BS) (f : Ed) (sl : Int) (st' : List Int) (scn : Bool) (w : World) (e : Ending) (w' : World) : Prop :=
  e = .returned (.int .i64 0) ∧ ∃ mv', REpM B w' rp vb rq stb mv' s' f sl st' scn ∧ Ch (fun b => FP rp vb mv b ∨ b = stb) w w' ∧ Fresh w mv mv'
set_option maxHeartbeats 1000000 in
theorem runpin_ok (hlen : s.lg.length < 1000000) (hB : B ≤ w.heap.size) (k : Nat) (hb : ckerr f t k = 0) (hz : lk st k = 2) : Calls Try.prog 26 #[.pointer (some ⟨rq, 0, none⟩), .int .i64 t, .int .i64 k] w (RUnpinned B rp vb rq stb mv (s.store t (f.slot k : Nat) 0) f sl (st.set k 0) scn w) := by
  have ht : 0 ≤ t ∧ t < 16 ∧ k < f.n := by
    unfold ckerr at hb
    split at hb
    · cases hb
    · split at hb
      · cases hb
      · omega
  obtain ⟨ht0, ht1, hkn⟩ := ht
  have e1 : decide (t < 0) = false := decide_eq_false (by omega)
  have e2 : decide (16 ≤ t) = false := decide_eq_false (by omega)
  have e4 : decide ((f.n : Int) ≤ (k : Int)) = false := decide_eq_false (by omega)
  have e4' : decide (f.n ≤ k) = false := decide_eq_false (by omega)
  have e5 : decide (k < f.n) = true := decide_eq_true hkn
  have b3 : w.cell? ⟨rq, 3, none⟩ = some (.int .i64 f.n) := h.fd.cell 3
  have b4 : w.cell? ⟨rq, 4, none⟩ = some (.slice (some ⟨stb, 0, none⟩) f.n f.n) := h.fd.cell 4
  have hks : k < st.length := by rw [h.ls]; exact hkn
  have ck : w.cell? ⟨stb, k, none⟩ = some (.int .i64 (lk st k)) := (h.sb.cell k).trans (intsA_at hks)
  have fk := h.sb.free k
  rw [hz] at ck
  have nq := h.fd.ne h.sb (by decide)
  have nq' := Ne.symm nq
  have hn := h.r.hn
  obtain ⟨hk1, hk2⟩ := slot_lt h.ok hkn
  have hsl : sl = f.sl := by
    rcases h.sl with e | e
    · omega
    · exact e
  have hwr : IntKind.i64.wrap (sl + (k : Int)) = (f.slot k : Int) := by rw [hsl, hk1]; exact IntWalk.i64_in _ (by omega)
  obtain ⟨m, hm⟩ : ∃ m, m = f.slot k := ⟨_, rfl⟩
  rw [← hm] at hk2 hwr ⊢
  have H := hid h
  clear hb hz h hks hm hk1 hsl
  go_enter Try.func26, Try.ntmps26
  go_wp2_with fail
  obtain ⟨W, hW⟩ : ∃ W, W = w.setCell ⟨stb, k, none⟩ (.int .i64 0) := ⟨_, rfl⟩
  have m1 : REpM B W rp vb rq stb mv s f sl (st.set k 0) scn := by rw [hW]; exact repm_sb H.out k 0
  have c1 : Ch (fun b => b = stb) w W := by rw [hW]; exact (Ch.refl (fun b => b = stb) w).set (fun _ => rfl) _
  have M1 := hid m1
  have C1 := hid c1
  clear b3 b4 ck fk
  have b0 : W.cell? ⟨rq, 0, none⟩ = some (.pointer (some ⟨rp, 0, none⟩)) := m1.fd.cell 0
  have b2 : W.cell? ⟨rq, 2, none⟩ = some (.int .i64 sl) := m1.fd.cell 2
  rw [← hW]
  clear hW m1 c1
  refine Mix.wp_region_mix (fun _ => True) (fun i => ([0, 0, 0, 0, 0, 0, 0, 0, 0, 0, 0, 2, 0] : List Nat).getD i 0) [0, 1, 2, 3, 4, 5, 6, 7, 8, 9, 10, 11, 12] (by kernel_rfl) (by kernel_rfl) ?_
  repeat (first | (refine Mix.mix_q (by simp only [List.getElem?_toArray, List.getElem?_cons_zero, List.getElem?_cons_succ]; exact rfl) rfl ?_; go_big_quiet_step (fail); refine wpQuiet_nil ?_) | (refine Mix.mix_p (by simp only [List.getElem?_toArray, List.getElem?_cons_zero, List.getElem?_cons_succ]; exact rfl) rfl rfl ?_; go_big_quiet_step (fail); refine wpQuiet_nil ?_))
  refine Mix.mix_e (by simp only [List.getElem?_toArray, List.getElem?_cons_zero, List.getElem?_cons_succ]; exact rfl) rfl fun W2 hW2 => ?_
  obtain ⟨n1, rfl⟩ := hW2
  go_wp2_with fail
  refine (rstore_ok B rp vb mv s t (m : Nat) 0 _ (rbank_drew M1.out.r n1) hlen (Nat.le_trans hB C1.out.size) ⟨ht0, ht1, by omega, by omega⟩).mono ?_
  rintro e w3 ⟨rfl, hs3⟩
  obtain ⟨mv', hb3, hc3, hf3, hfd3, hsb3, _⟩ := rafter M1.out M1.out.fd hs3
  have M3 := hid (⟨hb3, hfd3, hsb3, M1.out.ok.of (List.length_set ..), M1.out.sl, M1.out.ls, M1.out.bq, M1.out.bs⟩ : REpM B w3 rp vb rq stb mv' (s.store t (m : Nat) 0) f sl (st.set k 0) scn)
  have C3 := hid hc3
  have F3 := hid hf3
  clear b0 b2 hs3 hb3 hc3 hf3 hfd3 hsb3
  go_wp2_with fail
  repeat (first | (refine Mix.mix_q (by simp only [List.getElem?_toArray, List.getElem?_cons_zero, List.getElem?_cons_succ]; exact rfl) rfl ?_; go_big_quiet_step (fail); refine wpQuiet_nil ?_) | (refine Mix.mix_p (by simp only [List.getElem?_toArray, List.getElem?_cons_zero, List.getElem?_cons_succ]; exact rfl) rfl rfl ?_; go_big_quiet_step (fail); refine wpQuiet_nil ?_))
  intro n2
  go_wp2_with fail
  go_ret
  exact ⟨rfl, mv', M3.out.drewN n2, ((C1.out.mono fun _ _ h => .inr h).trans C3.out (fun _ _ h => .inl h)).drewN n2, F3.out.imp id fun h b hb => Nat.le_trans C1.out.size (h b hb)⟩

theorem rscan_bad (hb : t < 0 ∨ 16 ≤ t) : Calls Try.prog 28 #[.pointer (some ⟨rq, 0, none⟩), .int .i64 t] w fun e w' => e = .returned (.tuple #[.pointer none, .int .i64 2]) ∧ w = w' := by
  by_cases h1 : t < 0
  · have d1 : decide (t < 0) = true := decide_eq_true h1
    go_enter Try.func28, Try.ntmps28
    go_wp2_with fail
    go_ret2
    exact ⟨rfl, rfl⟩
  have d1 : decide (t < 0) = false := decide_eq_false h1
  have d2 : decide (16 ≤ t) = true := decide_eq_true (by omega)
  go_enter Try.func28, Try.ntmps28
  go_wp2_with fail
  go_ret2
  exact ⟨rfl, rfl⟩
theorem rscan_busy (ht : 0 ≤ t ∧ t < 16) (hs : scn = true) : Calls Try.prog 28 #[.pointer (some ⟨rq, 0, none⟩), .int .i64 t] w fun e w' => e = .returned (.tuple #[.pointer none, .int .i64 8]) ∧ w = w' := by
  have d1 : decide (t < 0) = false := decide_eq_false (by omega)
  have d2 : decide (16 ≤ t) = false := decide_eq_false (by omega)
  have b5 : w.cell? ⟨rq, 5, none⟩ = some (.bool scn) := h.fd.cell 5
  rw [hs] at b5
  clear h hs
  go_enter Try.func28, Try.ntmps28
  go_wp2_with fail
  go_ret2
  exact ⟨rfl, rfl⟩
/-- A scan was begun. -/
def RSnBegun (B rp vb rq stb : Nat) (mv : Value) (s : BS) (f : Ed) (sl : Int) (st : List Int) (t : Int) (w : World) (e : Ending) (w' : World) : Prop :=
  ∃ g, e = .returned (.tuple #[.pointer (some ⟨g, 0, none⟩), .int .i64 0]) ∧ REpM B w' rp vb rq stb mv s f sl st true ∧ Blk w' g 126 (rsnCells rq (snBegR f ⟨t, 0, false, 0⟩) 0) ∧ Ch (fun b => b = rq) w w' ∧ w.heap.size ≤ g
set_option maxHeartbeats 400000 in
theorem rscan_ok (ht : 0 ≤ t ∧ t < 16) (hs : scn = false) : Calls Try.prog 28 #[.pointer (some ⟨rq, 0, none⟩), .int .i64 t] w (RSnBegun B rp vb rq stb mv s f sl st t w) := by
  have d1 : decide (t < 0) = false := decide_eq_false (by omega)
  have d2 : decide (16 ≤ t) = false := decide_eq_false (by omega)
  have b5 : w.cell? ⟨rq, 5, none⟩ = some (.bool scn) := h.fd.cell 5
  have b3 : w.cell? ⟨rq, 3, none⟩ = some (.int .i64 f.n) := h.fd.cell 3
  have fb := h.fd.free 5
  have nw : rq ≠ w.heap.size := Nat.ne_of_lt h.fd.lt
  have nw' := Ne.symm nw
  have hlt := h.fd.lt
  rw [hs] at b5
  have H := hid h
  clear h hs
  have K0 : ∀ ph : Int, REpM B (((w.setCell ⟨rq, 5, none⟩ (.bool true)).alloc (.cells #[.pointer (some ⟨rq, 0, none⟩), .int .i64 t, .int .i64 0, .int .u8 ph, .bool false] 126))) rp vb rq stb mv s f sl st true := fun ph => (repm_sc H.out true).keep ((Ch.refl _ _).alloc _)
  have K1 : ∀ ph : Int, Blk (((w.setCell ⟨rq, 5, none⟩ (.bool true)).alloc (.cells #[.pointer (some ⟨rq, 0, none⟩), .int .i64 t, .int .i64 0, .int .u8 ph, .bool false] 126))) w.heap.size 126 #[.pointer (some ⟨rq, 0, none⟩), .int .i64 t, .int .i64 0, .int .u8 ph, .bool false] := fun ph => blk_set_new _ _ _ _ _
  have KK0 := hid K0
  have KK1 := hid K1
  clear K0 K1
  by_cases h0 : 0 < f.n
  · have dz : ((f.n : Int) == 0) = false := by rw [beq_eq_false_iff_ne]; omega
    have e1 : snBegR f ⟨t, 0, false, 0⟩ = ⟨t, 0, false, 34⟩ := by unfold snBegR; rw [if_pos h0]
    have E1 := hid e1
    clear e1
    go_enter Try.func28, Try.ntmps28
    go_wp2_with fail
    go_ret2
    exact ⟨_, rfl, KK0.out 34, by rw [E1.out]; exact KK1.out 34, ((Ch.refl (fun b => b = rq) w).set (fun _ => rfl) _).alloc _, by simp⟩
  · have dz : ((f.n : Int) == 0) = true := by rw [beq_iff_eq]; omega
    have e1 : snBegR f ⟨t, 0, false, 0⟩ = ⟨t, 0, false, 35⟩ := by unfold snBegR; rw [if_neg h0]
    have E1 := hid e1
    clear e1
    go_enter Try.func28, Try.ntmps28
    go_wp2_with fail
    go_ret2
    exact ⟨_, rfl, KK0.out 35, by rw [E1.out]; exact KK1.out 35, ((Ch.refl (fun b => b = rq) w).set (fun _ => rfl) _).alloc _, by simp⟩
end
section
variable (rq g : Nat) (w : World)
theorem rpn_next (q : Pn) (hq : Blk w g 120 (rpnCells rq q)) : Calls Try.prog 22 #[.pointer (some ⟨g, 0, none⟩)] w fun e w' => e = .returned (.int .u8 q.ph) ∧ w = w' := by
  have a4 : w.cell? ⟨g, 4, none⟩ = some (.int .u8 q.ph) := hq.cell 4
  clear hq
  go_enter Try.func22, Try.ntmps22
  go_wp2_with fail
  go_ret
  exact ⟨rfl, rfl⟩
theorem rsn_next (q : Sn) (a : Int) (hq : Blk w g 126 (rsnCells rq q a)) : Calls Try.prog 30 #[.pointer (some ⟨g, 0, none⟩)] w fun e w' => e = .returned (.int .u8 q.ph) ∧ w = w' := by
  have a3 : w.cell? ⟨g, 3, none⟩ = some (.int .u8 q.ph) := hq.cell 3
  clear hq
  go_enter Try.func30, Try.ntmps30
  go_wp2_with fail
  go_ret
  exact ⟨rfl, rfl⟩
theorem rsn_result (q : Sn) (a : Int) (hq : Blk w g 126 (rsnCells rq q a)) : Calls Try.prog 34 #[.pointer (some ⟨g, 0, none⟩)] w fun e w' => e = .returned (.tuple #[.bool (snResR q).1, .int .i64 (snResR q).2]) ∧ w = w' := by
  have a3 : w.cell? ⟨g, 3, none⟩ = some (.int .u8 q.ph) := hq.cell 3
  have a4 : w.cell? ⟨g, 4, none⟩ = some (.bool q.adv) := hq.cell 4
  unfold snResR
  clear hq
  by_cases h0 : q.ph = 0
  · have b0 : (q.ph != 0) = false := by rw [bne_eq_false_iff_eq]; exact h0
    rw [if_pos h0]
    clear h0
    go_enter Try.func34, Try.ntmps34
    go_wp2_with fail
    go_ret2
    exact ⟨rfl, rfl⟩
  · have b0 : (q.ph != 0) = true := by rw [bne_iff_ne]; exact h0
    rw [if_neg h0]
    clear h0
    go_enter Try.func34, Try.ntmps34
    go_wp2_with fail
    go_ret2
    exact ⟨rfl, rfl⟩
end
end Go.Proofs.Ytokcodeeaneeaaa
