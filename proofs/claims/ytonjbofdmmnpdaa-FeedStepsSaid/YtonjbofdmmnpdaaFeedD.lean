/- The feed: the memory of a run. -/
import Derived.Test.YtonjbofdmmnpdaaFeedC
import Derived.Test.YtonjbofdmmnpdaaFeedLawB
namespace Go.Proofs.Ytonjbofdmmnpdaa
open Go.RowKit
set_option linter.unusedVariables false
set_option linter.unusedSimpArgs false

theorem own_own {w : World} {B B' e e' size size' n n' : Nat} {v v' : Value} {xs xs' : List Value} (h : w.ownsRow B e size v n xs) (h' : w.ownsRow B' e' size' v' n' xs') (he : e ≠ e') : ∀ k, v.ownBlock = some k → v'.ownBlock ≠ some k := by
  intro k hk hk'
  rcases h.2 with ⟨rfl, _⟩ | ⟨g, cap, cur, rfl, _, hg, _⟩
  · simp [Value.ownBlock] at hk
  · simp [Value.ownBlock] at hk
    subst hk
    rcases h'.2 with ⟨rfl, _⟩ | ⟨g', cap', cur', rfl, _, hg', _⟩
    · simp [Value.ownBlock] at hk'
    · simp [Value.ownBlock] at hk'
      subst hk'
      have := hg.symm.trans hg'
      injection this with this
      injection this with _ this
      exact he this
theorem Blk.own' {w : World} {g B e size n : Nat} {t : TypeId} {cs : Array Value} {v : Value} {xs : List Value} (h : Blk w g t cs) (ho : w.ownsRow B e size v n xs) (ht : t ≠ e) : ∀ k, v.ownBlock = some k → k ≠ g := fun k hk e' => h.own ho ht (by rw [hk, e'])

def u64V (l : List Int) : List Value := l.map (Value.int .u64)
def boolV (l : List Bool) : List Value := l.map Value.bool

/-- The memory of a run. -/
structure RunW (B p cb fb X : Nat) (lv vp vi vg vl : Value) (s : BS) (F : Fd) (xc : Array Value) (pu it go : List Int) (la : List Bool) (P : Option (Nat × Pd)) (R : Option (Nat × Rd)) (w0 w : World) : Prop where
  fm : FeedM B w p cb fb lv s F
  x : Blk w X 33 xc
  rp : w.ownsRow B 35 1 vp pu.length (u64V pu)
  ri : w.ownsRow B 35 1 vi it.length (u64V it)
  rg : w.ownsRow B 35 1 vg go.length (u64V go)
  rl : w.ownsRow B 4 1 vl la.length (boolV la)
  pp : ∀ b q, P = some (b, q) → Blk w b 106 (pdCells fb q) ∧ B ≤ b
  rr : ∀ b r, R = some (b, r) → Blk w b 108 (rdCells fb r) ∧ B ≤ b
  d1 : ∀ k, vp.ownBlock = some k → vi.ownBlock ≠ some k
  d2 : ∀ k, vp.ownBlock = some k → vg.ownBlock ≠ some k
  d3 : ∀ k, vi.ownBlock = some k → vg.ownBlock ≠ some k
  bel : Below B w0 w
  bx : B ≤ X
  bz : B ≤ w.heap.size

section
variable {B p cb fb X : Nat} {lv vp vi vg vl : Value} {s : BS} {F : Fd} {xc : Array Value} {pu it go : List Int} {la : List Bool} {P : Option (Nat × Pd)} {R : Option (Nat × Rd)} {w0 w w' : World} {fp : Nat → Prop}

/-- What changes none of the run's blocks. -/
theorem RunW.keep (h : RunW B p cb fb X lv vp vi vg vl s F xc pu it go la P R w0 w) (c : Ch (fun _ => False) w w') : RunW B p cb fb X lv vp vi vg vl s F xc pu it go la P R w0 w' :=
  ⟨h.fm.keep c, c.blk h.x id, c.own h.rp (fun _ _ => id), c.own h.ri (fun _ _ => id), c.own h.rg (fun _ _ => id), c.own h.rl (fun _ _ => id), fun b q e => ⟨c.blk (h.pp b q e).1 id, (h.pp b q e).2⟩, fun b r e => ⟨c.blk (h.rr b r e).1 id, (h.rr b r e).2⟩, h.d1, h.d2, h.d3, h.bel.trans (c.below h.bz (fun _ e => e.elim)), h.bx, Nat.le_trans h.bz c.size⟩
theorem RunW.drewN (h : RunW B p cb fb X lv vp vi vg vl s F xc pu it go la P R w0 w) (n : Nat) : RunW B p cb fb X lv vp vi vg vl s F xc pu it go la P R w0 (w.drewN n) := h.keep ((Ch.refl _ w).drewN n)

/-- A cell of the run is set. -/
theorem RunW.put (h : RunW B p cb fb X lv vp vi vg vl s F xc pu it go la P R w0 w) (i : Nat) (u : Value) : RunW B p cb fb X lv vp vi vg vl s F (xc.setIfInBounds i u) pu it go la P R w0 (w.setCell ⟨X, i, none⟩ u) := by
  have c : Ch (fun b => b = X) w (w.setCell ⟨X, i, none⟩ u) := (Ch.refl (fun b => b = X) w).set (fun _ => rfl) u
  have n0 := not_fp h.fm.b h.x (by decide) (by decide) (by decide)
  refine ⟨h.fm.ch c (fun e => n0 (.inl e.symm)) (fun e => n0 (.inr (.inl e.symm))) (fun k hk e => n0 (.inr (.inr (by rw [← e]; exact hk)))) (fun e => h.fm.fd.ne h.x (by decide) e), h.x.put i u, c.own h.rp (h.x.own' h.rp (by decide)), c.own h.ri (h.x.own' h.ri (by decide)), c.own h.rg (h.x.own' h.rg (by decide)), c.own h.rl (h.x.own' h.rl (by decide)),
    fun b q e => ⟨c.blk (h.pp b q e).1 (fun e' => (h.pp b q e).1.ne h.x (by decide) e'), (h.pp b q e).2⟩, fun b r e => ⟨c.blk (h.rr b r e).1 (fun e' => (h.rr b r e).1.ne h.x (by decide) e'), (h.rr b r e).2⟩, h.d1, h.d2, h.d3, h.bel.trans (c.below h.bz (fun k e => by rw [e]; exact h.bx)), h.bx, Nat.le_trans h.bz c.size⟩

/-- The bank, the feed and the push have changed. -/
theorem RunW.pushed (h : RunW B p cb fb X lv vp vi vg vl s F xc pu it go la P R w0 w) {b : Nat} {q q' : Pd} {lv' : Value} {s' : BS} {F' : Fd} (hP : P = some (b, q)) (hf : FeedM B w' p cb fb lv' s' F') (hq : Blk w' b 106 (pdCells fb q')) (c : Ch (fun k => FP p cb lv k ∨ k = fb ∨ k = b) w w') :
    RunW B p cb fb X lv' vp vi vg vl s' F' xc pu it go la (some (b, q')) R w0 w' := by
  obtain ⟨hq0, hbb⟩ := h.pp b q hP
  have nb : ∀ {g : Nat} {t : TypeId} {cs : Array Value}, Blk w g t cs → t ≠ 88 → t ≠ 94 → t ≠ 120 → t ≠ 98 → t ≠ 106 → ¬ (FP p cb lv g ∨ g = fb ∨ g = b) := fun hg h1 h2 h3 h4 h5 => by
    rintro (e | e | e)
    · exact not_fp h.fm.b hg h1 h2 h3 e
    · exact hg.ne h.fm.fd h4 e
    · exact hg.ne hq0 h5 e
  have nr : ∀ {e size n : Nat} {v : Value} {xs : List Value}, w.ownsRow B e size v n xs → 88 ≠ e → 94 ≠ e → e ≠ 120 → 98 ≠ e → 106 ≠ e → ∀ k, v.ownBlock = some k → ¬ (FP p cb lv k ∨ k = fb ∨ k = b) := fun ho h1 h2 h3 h4 h5 k hk => by
    rintro ((e | e | e) | e | e)
    · exact h.fm.b.hp.own' ho h1 k hk e
    · exact h.fm.b.hc.own' ho h2 k hk e
    · exact own_own ho h.fm.b.hl h3 k hk e
    · exact h.fm.fd.own' ho h4 k hk e
    · exact hq0.own' ho h5 k hk e
  refine ⟨hf, c.blk h.x (nb h.x (by decide) (by decide) (by decide) (by decide) (by decide)), c.own h.rp (nr h.rp (by decide) (by decide) (by decide) (by decide) (by decide)), c.own h.ri (nr h.ri (by decide) (by decide) (by decide) (by decide) (by decide)), c.own h.rg (nr h.rg (by decide) (by decide) (by decide) (by decide) (by decide)), c.own h.rl (nr h.rl (by decide) (by decide) (by decide) (by decide) (by decide)),
    fun b1 q1 e => ?_, fun b1 r e => ⟨c.blk (h.rr b1 r e).1 (nb (h.rr b1 r e).1 (by decide) (by decide) (by decide) (by decide) (by decide)), (h.rr b1 r e).2⟩, h.d1, h.d2, h.d3, h.bel.trans (c.below h.bz (fun k e => ?_)), h.bx, Nat.le_trans h.bz c.size⟩
  · simp at e
    obtain ⟨rfl, rfl⟩ := e
    exact ⟨hq, hbb⟩
  · rcases e with (e | e | e) | e | e
    · rw [e]; exact h.fm.b.bp
    · rw [e]; exact h.fm.b.bc
    · exact (h.fm.b.hl.lt k e).1
    · rw [e]; exact h.fm.bf
    · rw [e]; exact hbb

/-- The bank, the feed and the reception have changed. -/
theorem RunW.received (h : RunW B p cb fb X lv vp vi vg vl s F xc pu it go la P R w0 w) {b : Nat} {r r' : Rd} {lv' : Value} {s' : BS} {F' : Fd} (hR : R = some (b, r)) (hf : FeedM B w' p cb fb lv' s' F') (hq : Blk w' b 108 (rdCells fb r')) (c : Ch (fun k => FP p cb lv k ∨ k = fb ∨ k = b) w w') :
    RunW B p cb fb X lv' vp vi vg vl s' F' xc pu it go la P (some (b, r')) w0 w' := by
  obtain ⟨hq0, hbb⟩ := h.rr b r hR
  have nb : ∀ {g : Nat} {t : TypeId} {cs : Array Value}, Blk w g t cs → t ≠ 88 → t ≠ 94 → t ≠ 120 → t ≠ 98 → t ≠ 108 → ¬ (FP p cb lv g ∨ g = fb ∨ g = b) := fun hg h1 h2 h3 h4 h5 => by
    rintro (e | e | e)
    · exact not_fp h.fm.b hg h1 h2 h3 e
    · exact hg.ne h.fm.fd h4 e
    · exact hg.ne hq0 h5 e
  have nr : ∀ {e size n : Nat} {v : Value} {xs : List Value}, w.ownsRow B e size v n xs → 88 ≠ e → 94 ≠ e → e ≠ 120 → 98 ≠ e → 108 ≠ e → ∀ k, v.ownBlock = some k → ¬ (FP p cb lv k ∨ k = fb ∨ k = b) := fun ho h1 h2 h3 h4 h5 k hk => by
    rintro ((e | e | e) | e | e)
    · exact h.fm.b.hp.own' ho h1 k hk e
    · exact h.fm.b.hc.own' ho h2 k hk e
    · exact own_own ho h.fm.b.hl h3 k hk e
    · exact h.fm.fd.own' ho h4 k hk e
    · exact hq0.own' ho h5 k hk e
  refine ⟨hf, c.blk h.x (nb h.x (by decide) (by decide) (by decide) (by decide) (by decide)), c.own h.rp (nr h.rp (by decide) (by decide) (by decide) (by decide) (by decide)), c.own h.ri (nr h.ri (by decide) (by decide) (by decide) (by decide) (by decide)), c.own h.rg (nr h.rg (by decide) (by decide) (by decide) (by decide) (by decide)), c.own h.rl (nr h.rl (by decide) (by decide) (by decide) (by decide) (by decide)),
    fun b1 q1 e => ⟨c.blk (h.pp b1 q1 e).1 (nb (h.pp b1 q1 e).1 (by decide) (by decide) (by decide) (by decide) (by decide)), (h.pp b1 q1 e).2⟩, fun b1 r1 e => ?_, h.d1, h.d2, h.d3, h.bel.trans (c.below h.bz (fun k e => ?_)), h.bx, Nat.le_trans h.bz c.size⟩
  · simp at e
    obtain ⟨rfl, rfl⟩ := e
    exact ⟨hq, hbb⟩
  · rcases e with (e | e | e) | e | e
    · rw [e]; exact h.fm.b.bp
    · rw [e]; exact h.fm.b.bc
    · exact (h.fm.b.hl.lt k e).1
    · rw [e]; exact h.fm.bf
    · rw [e]; exact hbb

/-- The feed's own block alone has changed. -/
theorem RunW.fed (h : RunW B p cb fb X lv vp vi vg vl s F xc pu it go la P R w0 w) {F' : Fd} (hf : FeedM B w' p cb fb lv s F') (c : Ch (fun k => k = fb) w w') : RunW B p cb fb X lv vp vi vg vl s F' xc pu it go la P R w0 w' := by
  have hd := h.fm.fd
  refine ⟨hf, c.blk h.x (fun e => h.x.ne hd (by decide) e), c.own h.rp (hd.own' h.rp (by decide)), c.own h.ri (hd.own' h.ri (by decide)), c.own h.rg (hd.own' h.rg (by decide)), c.own h.rl (hd.own' h.rl (by decide)),
    fun b q e => ⟨c.blk (h.pp b q e).1 (fun e' => (h.pp b q e).1.ne hd (by decide) e'), (h.pp b q e).2⟩, fun b r e => ⟨c.blk (h.rr b r e).1 (fun e' => (h.rr b r e).1.ne hd (by decide) e'), (h.rr b r e).2⟩, h.d1, h.d2, h.d3, h.bel.trans (c.below h.bz (fun k e => by rw [e]; exact h.fm.bf)), h.bx, Nat.le_trans h.bz c.size⟩

theorem fresh_ne {w : World} {v v' u : Value} {B e size n : Nat} {xs : List Value} (hf : Fresh w v v') (hu : w.ownsRow B e size u n xs) (hd : ∀ k, v.ownBlock = some k → u.ownBlock ≠ some k) : ∀ k, v'.ownBlock = some k → u.ownBlock ≠ some k := by
  intro k hk hu'
  rcases hf with e' | e'
  · exact hd k (by rw [← e']; exact hk) hu'
  · have := e' k hk
    have := (hu.lt k hu').2
    omega

/-- A number was appended to one of the rows, or a mark. -/
theorem RunW.appP (h : RunW B p cb fb X lv vp vi vg vl s F xc pu it go la P R w0 w) {v' : Value} {y : Int} (hr : w'.ownsRow B 35 1 v' (pu ++ [y]).length (u64V (pu ++ [y]))) (hg : w.grownBy w' vp.ownBlock) (hf : Fresh w vp v') :
    RunW B p cb fb X lv v' vi vg vl s F xc (pu ++ [y]) it go la P R w0 w' := by
  have c : Ch (fun k => vp.ownBlock = some k) w w' := (Ch.refl _ w).grown hg (fun k hk _ => hk)
  have n0 := h.fm.b
  refine ⟨h.fm.ch c (n0.hp.own h.rp (by decide)) (n0.hc.own h.rp (by decide)) (fun k hk => own_own n0.hl h.rp (by decide) k hk) (h.fm.fd.own h.rp (by decide)), c.blk h.x (h.x.own h.rp (by decide)), hr, c.own h.ri (fun k hk e => h.d1 k e hk), c.own h.rg (fun k hk e => h.d2 k e hk), c.own h.rl (fun k hk => own_own h.rl h.rp (by decide) k hk),
    fun b q e => ⟨c.blk (h.pp b q e).1 ((h.pp b q e).1.own h.rp (by decide)), (h.pp b q e).2⟩, fun b r e => ⟨c.blk (h.rr b r e).1 ((h.rr b r e).1.own h.rp (by decide)), (h.rr b r e).2⟩, fresh_ne hf h.ri h.d1, fresh_ne hf h.rg h.d2, h.d3, h.bel.trans (c.below h.bz (fun k e => (h.rp.lt k e).1)), h.bx, Nat.le_trans h.bz c.size⟩
theorem RunW.appI (h : RunW B p cb fb X lv vp vi vg vl s F xc pu it go la P R w0 w) {v' : Value} {y : Int} (hr : w'.ownsRow B 35 1 v' (it ++ [y]).length (u64V (it ++ [y]))) (hg : w.grownBy w' vi.ownBlock) (hf : Fresh w vi v') :
    RunW B p cb fb X lv vp v' vg vl s F xc pu (it ++ [y]) go la P R w0 w' := by
  have c : Ch (fun k => vi.ownBlock = some k) w w' := (Ch.refl _ w).grown hg (fun k hk _ => hk)
  have n0 := h.fm.b
  refine ⟨h.fm.ch c (n0.hp.own h.ri (by decide)) (n0.hc.own h.ri (by decide)) (fun k hk => own_own n0.hl h.ri (by decide) k hk) (h.fm.fd.own h.ri (by decide)), c.blk h.x (h.x.own h.ri (by decide)), c.own h.rp (fun k hk e => h.d1 k hk e), hr, c.own h.rg (fun k hk e => h.d3 k e hk), c.own h.rl (fun k hk => own_own h.rl h.ri (by decide) k hk),
    fun b q e => ⟨c.blk (h.pp b q e).1 ((h.pp b q e).1.own h.ri (by decide)), (h.pp b q e).2⟩, fun b r e => ⟨c.blk (h.rr b r e).1 ((h.rr b r e).1.own h.ri (by decide)), (h.rr b r e).2⟩, fun k hk e => fresh_ne hf h.rp (fun j hj e' => h.d1 j e' hj) k e hk, h.d2, fresh_ne hf h.rg h.d3, h.bel.trans (c.below h.bz (fun k e => (h.ri.lt k e).1)), h.bx, Nat.le_trans h.bz c.size⟩
theorem RunW.appG (h : RunW B p cb fb X lv vp vi vg vl s F xc pu it go la P R w0 w) {v' : Value} {y : Int} (hr : w'.ownsRow B 35 1 v' (go ++ [y]).length (u64V (go ++ [y]))) (hg : w.grownBy w' vg.ownBlock) (hf : Fresh w vg v') :
    RunW B p cb fb X lv vp vi v' vl s F xc pu it (go ++ [y]) la P R w0 w' := by
  have c : Ch (fun k => vg.ownBlock = some k) w w' := (Ch.refl _ w).grown hg (fun k hk _ => hk)
  have n0 := h.fm.b
  refine ⟨h.fm.ch c (n0.hp.own h.rg (by decide)) (n0.hc.own h.rg (by decide)) (fun k hk => own_own n0.hl h.rg (by decide) k hk) (h.fm.fd.own h.rg (by decide)), c.blk h.x (h.x.own h.rg (by decide)), c.own h.rp (fun k hk e => h.d2 k hk e), c.own h.ri (fun k hk e => h.d3 k hk e), hr, c.own h.rl (fun k hk => own_own h.rl h.rg (by decide) k hk),
    fun b q e => ⟨c.blk (h.pp b q e).1 ((h.pp b q e).1.own h.rg (by decide)), (h.pp b q e).2⟩, fun b r e => ⟨c.blk (h.rr b r e).1 ((h.rr b r e).1.own h.rg (by decide)), (h.rr b r e).2⟩, h.d1, fun k hk e => fresh_ne hf h.rp (fun j hj e' => h.d2 j e' hj) k e hk, fun k hk e => fresh_ne hf h.ri (fun j hj e' => h.d3 j e' hj) k e hk, h.bel.trans (c.below h.bz (fun k e => (h.rg.lt k e).1)), h.bx, Nat.le_trans h.bz c.size⟩
theorem RunW.appL (h : RunW B p cb fb X lv vp vi vg vl s F xc pu it go la P R w0 w) {v' : Value} {y : Bool} (hr : w'.ownsRow B 4 1 v' (la ++ [y]).length (boolV (la ++ [y]))) (hg : w.grownBy w' vl.ownBlock) (hf : Fresh w vl v') :
    RunW B p cb fb X lv vp vi vg v' s F xc pu it go (la ++ [y]) P R w0 w' := by
  have c : Ch (fun k => vl.ownBlock = some k) w w' := (Ch.refl _ w).grown hg (fun k hk _ => hk)
  have n0 := h.fm.b
  refine ⟨h.fm.ch c (n0.hp.own h.rl (by decide)) (n0.hc.own h.rl (by decide)) (fun k hk => own_own n0.hl h.rl (by decide) k hk) (h.fm.fd.own h.rl (by decide)), c.blk h.x (h.x.own h.rl (by decide)), c.own h.rp (fun k hk => own_own h.rp h.rl (by decide) k hk), c.own h.ri (fun k hk => own_own h.ri h.rl (by decide) k hk), c.own h.rg (fun k hk => own_own h.rg h.rl (by decide) k hk), hr,
    fun b q e => ⟨c.blk (h.pp b q e).1 ((h.pp b q e).1.own h.rl (by decide)), (h.pp b q e).2⟩, fun b r e => ⟨c.blk (h.rr b r e).1 ((h.rr b r e).1.own h.rl (by decide)), (h.rr b r e).2⟩, h.d1, h.d2, h.d3, h.bel.trans (c.below h.bz (fun k e => (h.rl.lt k e).1)), h.bx, Nat.le_trans h.bz c.size⟩

/-- The push, or the reception, is another one, or forgotten. -/
theorem RunW.setP (h : RunW B p cb fb X lv vp vi vg vl s F xc pu it go la P R w0 w) {b : Nat} {q : Pd} (hq : Blk w b 106 (pdCells fb q)) (hb : B ≤ b) : RunW B p cb fb X lv vp vi vg vl s F xc pu it go la (some (b, q)) R w0 w :=
  ⟨h.fm, h.x, h.rp, h.ri, h.rg, h.rl, (fun b1 q1 e => by simp at e; obtain ⟨rfl, rfl⟩ := e; exact ⟨hq, hb⟩), h.rr, h.d1, h.d2, h.d3, h.bel, h.bx, h.bz⟩
theorem RunW.noP (h : RunW B p cb fb X lv vp vi vg vl s F xc pu it go la P R w0 w) : RunW B p cb fb X lv vp vi vg vl s F xc pu it go la none R w0 w :=
  ⟨h.fm, h.x, h.rp, h.ri, h.rg, h.rl, (fun b1 q1 e => by cases e), h.rr, h.d1, h.d2, h.d3, h.bel, h.bx, h.bz⟩
theorem RunW.setR (h : RunW B p cb fb X lv vp vi vg vl s F xc pu it go la P R w0 w) {b : Nat} {r : Rd} (hq : Blk w b 108 (rdCells fb r)) (hb : B ≤ b) : RunW B p cb fb X lv vp vi vg vl s F xc pu it go la P (some (b, r)) w0 w :=
  ⟨h.fm, h.x, h.rp, h.ri, h.rg, h.rl, h.pp, (fun b1 q1 e => by simp at e; obtain ⟨rfl, rfl⟩ := e; exact ⟨hq, hb⟩), h.d1, h.d2, h.d3, h.bel, h.bx, h.bz⟩
theorem RunW.noR (h : RunW B p cb fb X lv vp vi vg vl s F xc pu it go la P R w0 w) : RunW B p cb fb X lv vp vi vg vl s F xc pu it go la P none w0 w :=
  ⟨h.fm, h.x, h.rp, h.ri, h.rg, h.rl, h.pp, (fun b1 q1 e => by cases e), h.d1, h.d2, h.d3, h.bel, h.bx, h.bz⟩
end
end Go.Proofs.Ytonjbofdmmnpdaa
