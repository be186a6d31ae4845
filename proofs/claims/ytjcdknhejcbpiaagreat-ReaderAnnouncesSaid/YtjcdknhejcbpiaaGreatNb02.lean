/- Lemmas that the proof of the last text leans on; no condition. -/
import Derived.WalkKit
import Derived.WalkSpells
import Derived.WalkLawsBesides
import Derived.Deep.Draws
namespace Go.Proofs.YtjcdknhejcbpiaaGreat
open Go.RowKit
set_option linter.unusedSimpArgs false
theorem hid {p : Prop} (h : p) : Hid p := h
def Blk (w : World) (g : Nat) (t : TypeId) (cs : Array Value) : Prop := w.heap[g]? = some (.cells cs t (0, 0))
section
variable {w w' : World} {g g' : Nat} {t t' : TypeId} {cs cs' : Array Value}
theorem Blk.lt (h : Blk w g t cs) : g < w.heap.size := (Array.getElem?_eq_some_iff.1 h).1
theorem Blk.cell (h : Blk w g t cs) (i : Nat) : w.cell? ⟨g, i, none⟩ = cs[i]? := cell_of_row w g i cs t (0, 0) h
theorem Blk.free (h : Blk w g t cs) (i : Nat) : w.frozen? ⟨g, i, none⟩ = false := by
  unfold Blk at h
  simp [World.frozen?, h]
theorem Blk.inj (h : Blk w g t cs) (h' : Blk w g t' cs') : t = t' ∧ cs = cs' := by
  have e := h.symm.trans h'
  injection e with e
  injection e with e1 e2
  exact ⟨e2, e1⟩
theorem Blk.ne (h : Blk w g t cs) (h' : Blk w g' t' cs') (ht : t ≠ t') : g ≠ g' := fun e => by subst e; exact ht (h.inj h').1
theorem Blk.new (w : World) (t : TypeId) (cs : Array Value) : Blk (w.alloc (.cells cs t)) w.heap.size t cs := heap_alloc_new w _
theorem Blk.drewN (h : Blk w g t cs) (n : Nat) : Blk (w.drewN n) g t cs := h
theorem Blk.alloc (h : Blk w g t cs) (o : Obj) : Blk (w.alloc o) g t cs := (Below.heap_alloc w o g h.lt).trans h
theorem Blk.put (h : Blk w g t cs) (i : Nat) (u : Value) : Blk (w.setCell ⟨g, i, none⟩ u) g t (cs.setIfInBounds i u) := by
  unfold Blk at h ⊢
  simp [World.setCell, Array.getElem?_modify, h]
theorem Blk.far (h : Blk w g t cs) {p : Addr} (hp : g ≠ p.block) (u : Value) : Blk (w.setCell p u) g t cs := (Below.heap_setCell w p u g hp).trans h
theorem Blk.own {B e size n : Nat} {v : Value} {xs : List Value} (h : Blk w g t cs) (ho : w.ownsRow B e size v n xs) (ht : t ≠ e) : v.ownBlock ≠ some g := by
  intro hv
  rcases ho.2 with ⟨rfl, _⟩ | ⟨k, cap, cur, rfl, _, hk, _⟩
  · simp [Value.ownBlock] at hv
  · simp [Value.ownBlock] at hv
    subst hv
    exact ht (h.inj hk).1
end
structure Ch (fp : Nat → Prop) (w w' : World) : Prop where
  os : w'.os = w.os
  tape : w'.tape = w.tape
  output : w'.output = w.output
  size : w.heap.size ≤ w'.heap.size
  block : ∀ k, k < w.heap.size → ¬ fp k → w'.heap[k]? = w.heap[k]?
section
variable {fp fp' : Nat → Prop} {a w w' : World}
theorem Ch.refl (fp : Nat → Prop) (w : World) : Ch fp w w := ⟨rfl, rfl, rfl, Nat.le_refl _, fun _ _ _ => rfl⟩
theorem Ch.trans (h : Ch fp a w) (k : Ch fp' w w') (hf : ∀ i, i < a.heap.size → fp' i → fp i) : Ch fp a w' :=
  ⟨k.os.trans h.os, k.tape.trans h.tape, k.output.trans h.output, Nat.le_trans h.size k.size, fun i hi hn => (k.block i (Nat.lt_of_lt_of_le hi h.size) (fun e => hn (hf i hi e))).trans (h.block i hi hn)⟩
theorem Ch.mono (h : Ch fp a w) (hf : ∀ i, i < a.heap.size → fp i → fp' i) : Ch fp' a w := ⟨h.os, h.tape, h.output, h.size, fun i hi hn => h.block i hi (fun e => hn (hf i hi e))⟩
theorem Ch.drewN (h : Ch fp a w) (n : Nat) : Ch fp a (w.drewN n) := ⟨h.os, h.tape, h.output, h.size, h.block⟩
theorem Ch.ofDrewN {n : Nat} (h : Ch fp (a.drewN n) w) : Ch fp a w := ⟨h.os, h.tape, h.output, h.size, h.block⟩
theorem Ch.alloc (h : Ch fp a w) (o : Obj) : Ch fp a (w.alloc o) :=
  ⟨h.os, h.tape, h.output, Nat.le_trans h.size (by simp), fun i hi hn => (Below.heap_alloc w o i (Nat.lt_of_lt_of_le hi h.size)).trans (h.block i hi hn)⟩
theorem Ch.setCell (h : Ch fp a w) {p : Addr} (hp : p.block < a.heap.size → fp p.block) (u : Value) : Ch fp a (w.setCell p u) :=
  ⟨h.os, h.tape, h.output, by simpa [World.setCell] using h.size, fun i hi hn => (Below.heap_setCell w p u i (fun e => by subst e; exact hn (hp hi))).trans (h.block i hi hn)⟩
theorem Ch.set (h : Ch fp a w) {b o : Nat} (hp : b < a.heap.size → fp b) (u : Value) : Ch fp a (w.setCell ⟨b, o, none⟩ u) := h.setCell hp u
theorem Ch.push {o : Obj} (h1 : w'.os = w.os) (h2 : w'.tape = w.tape) (h3 : w'.output = w.output) (h : w'.heap = w.heap.push o) : Ch fp w w' :=
  ⟨h1, h2, h3, by rw [h]; simp, fun i hi _ => by rw [h, Array.getElem?_push, if_neg (by omega)]⟩
theorem Blk.push {t : TypeId} {cs : Array Value} (h : w'.heap = w.heap.push (.cells cs t (0, 0))) : Blk w' w.heap.size t cs := by
  unfold Blk
  rw [h]
  simp
theorem Ch.grown {row : Option Nat} (h : Ch fp a w) (hg : w.grownBy w' row) (hr : ∀ k, row = some k → k < a.heap.size → fp k) : Ch fp a w' :=
  ⟨hg.os.trans h.os, hg.tape.trans h.tape, hg.output.trans h.output, Nat.le_trans h.size hg.size, fun i hi hn => (hg.block i (Nat.lt_of_lt_of_le hi h.size) (fun e => hn (hr i e.symm hi))).trans (h.block i hi hn)⟩
theorem Ch.blk (h : Ch fp w w') {g : Nat} {t : TypeId} {cs : Array Value} (hb : Blk w g t cs) (hn : ¬ fp g) : Blk w' g t cs := (h.block g hb.lt hn).trans hb
theorem Ch.own (h : Ch fp w w') {B e size n : Nat} {v : Value} {xs : List Value} (ho : w.ownsRow B e size v n xs) (hn : ∀ k, v.ownBlock = some k → ¬ fp k) : w'.ownsRow B e size v n xs := by
  refine ⟨ho.1, ?_⟩
  rcases ho.2 with hv | ⟨g, cap, cur, rfl, hB, hg, rest⟩
  · exact .inl hv
  · exact .inr ⟨g, cap, cur, rfl, hB, (h.block g (Array.getElem?_eq_some_iff.1 hg).1 (hn g rfl)).trans hg, rest⟩
theorem Ch.cell (h : Ch fp w w') {p : Addr} (hp : p.block < w.heap.size) (hn : ¬ fp p.block) : w'.cell? p = w.cell? p := World.cell?_of_block (w := w) (h.block p.block hp hn)
theorem own_grown {B e size n : Nat} {v : Value} {xs : List Value} {row : Option Nat} (ho : w.ownsRow B e size v n xs) (hg : w.grownBy w' row) (hn : ∀ k, v.ownBlock = some k → row ≠ some k) : w'.ownsRow B e size v n xs := by
  refine ho.kept hg ?_
  cases hv : v.ownBlock with
  | none => exact .inl rfl
  | some k => exact .inr (fun e => hn k hv e.symm)
theorem Blk.grown {row : Option Nat} {g : Nat} {t : TypeId} {cs : Array Value} (h : Blk w g t cs) (hb : w.grownBy w' row) (hg : row ≠ some g) : Blk w' g t cs := (hb.block g h.lt (fun e => hg e.symm)).trans h
theorem own_form {B e size n : Nat} {v : Value} {xs : List Value} (ho : w.ownsRow B e size v n xs) (h : 0 < n) : ∃ g cap, v = .slice (some ⟨g, 0, none⟩) n cap ∧ n ≤ cap ∧ cap ≤ maxLen ∧ B ≤ g ∧ g < w.heap.size := by
  rcases ho.2 with ⟨_, hn⟩ | ⟨g, cap, cur, rfl, hB, hg, h1, h2, _⟩
  · omega
  · exact ⟨g, cap, rfl, h1, h2, hB, (Array.getElem?_eq_some_iff.1 hg).1⟩
theorem own_slice {B e size n : Nat} {v : Value} {xs : List Value} (ho : w.ownsRow B e size v n xs) : ∃ A cap, v = .slice A n cap ∧ n ≤ cap := by
  rcases ho.2 with ⟨rfl, rfl⟩ | ⟨g, cap, cur, rfl, hB, hg, h1, h2, _⟩
  · exact ⟨_, _, rfl, Nat.le_refl _⟩
  · exact ⟨_, cap, rfl, h1⟩
end
theorem own_mono {w : World} {B B' e size n : Nat} {v : Value} {xs : List Value} (h : w.ownsRow B e size v n xs) (hB : B' ≤ B) : w.ownsRow B' e size v n xs := by
  refine ⟨h.1, ?_⟩
  rcases h.2 with hv | ⟨g, cap, cur, hv, hg, rest⟩
  · exact .inl hv
  · exact .inr ⟨g, cap, cur, hv, by omega, rest⟩
def Fresh (w : World) (v v' : Value) : Prop := v'.ownBlock = v.ownBlock ∨ ∀ b, v'.ownBlock = some b → w.heap.size ≤ b
theorem wpList_app {P : Program} (w : World) {ops : Array Oper} {rest : List Oper} {o : Oper} {a : Act} {Q : Exit → Act → World → Prop} (hgd : o.guard = none) (s x : Operand) (t : TypeId)
    (ho : o.op = .call { callee := .builtin .append, args := #[s, x], argTypes := #[t, t] }) (base : Nat) (e : TypeId) (i : TypeInfo) (z : Value) (size bytes : Nat)
    (ht : P.underlying t = some (.slice e)) (hi : P.info? e = some i) (hz : i.zero = some z) (hs : i.size = size) (hb : i.bytes = bytes) (hzs : z.cells.size = size) (hsz : 0 < size)
    (v : Value) (n : Nat) (xs : List Value) (hv : a.eval s = v) (hown : w.ownsRow base e size v n xs) (ad : Addr) (m c : Nat) (news : List Value) (hx : a.eval x = .slice (some ad) m c)
    (hl : news.length = m * size) (hn : ∀ (j : Nat) (u : Value), news[j]? = some u → w.cell? (ad.add j) = some u) (h1 : ∀ u ∈ news, u.oneCell' = true) (hm0 : 0 < m) (hm : n + m ≤ maxLen)
    (hr : (n + m) * bytes ≤ 140737488355328) (hB : base ≤ w.heap.size)
    (h : ∀ (v' : Value) (w' : World), w'.ownsRow base e size v' (n + m) (xs ++ news) → w.grownBy w' v.ownBlock → Fresh w v v' → wpList P ops Q rest (a.put o.dst v') w') : wpList P ops Q (o :: rest) a w := by
  rcases hown.2 with ⟨rfl, rfl⟩ | ⟨g, cap, cur, rfl, hg, hh, hnc, hcm, hcs, htk⟩
  · have hx0 : xs = [] := by have := hown.1; simpa using this
    subst hx0
    refine wpList_append_grows w hgd s x t ho e i z size bytes ht hi hz hs hb hzs hsz none 0 0 [] hv (fun _ => ⟨rfl, rfl⟩) (by simp) (by intro b hb; cases hb) ad m c news hx hl hn h1 (by omega) hm hr ?_
    intro v' w' h2 h3
    refine h v' w' (own_mono h2 hB) h3 (.inr fun b hb => ?_)
    exact (h2.lt b hb).1
  · by_cases hroom : n + m ≤ cap
    · refine wpList_append_fits w hgd s x t ho base e i size ht hi hs g n cap xs hv hown ad m c news hx hl hn h1 hroom ?_
      intro w' h2 h3
      exact h _ w' h2 h3 (.inl rfl)
    · refine wpList_append_grows w hgd s x t ho e i z size bytes ht hi hz hs hb hzs hsz (some ⟨g, 0, none⟩) n cap xs hv (by intro hc; cases hc) hown.1 ?_ ad m c news hx hl hn h1 (by omega) hm hr ?_
      · intro b hb j u hu
        obtain rfl := Option.some.inj hb
        exact hown.cells (g := g) rfl j u hu
      · intro v' w' h2 h3
        refine h v' w' (own_mono h2 hB) ⟨h3.os, h3.tape, h3.output, h3.size, fun k hk _ => h3.block k hk (by simp)⟩ (.inr fun b hb => ?_)
        exact (h2.lt b hb).1
theorem addr_add0 (b j : Nat) : (⟨b, 0, none⟩ : Addr).add j = ⟨b, j, none⟩ := by unfold Addr.add; split <;> simp_all
theorem addr_add (b o j : Nat) : (⟨b, o, none⟩ : Addr).add j = ⟨b, o + j, none⟩ := by unfold Addr.add; split <;> simp_all
def lk (l : List Int) (i : Nat) : Int := l.getD i 0
theorem run_copy_full {P : Program} (w : World) (dT sT ty elem : TypeId) (hu : P.underlying dT = some (.slice elem)) (size : Nat) (hsz : (P.info? elem).map (·.size) = some size)
    (g n dCap : Nat) (sp : Option Addr) (sCap : Nat) (cur : Array Value) (t : TypeId) (hg : w.heap[g]? = some (.cells cur t (0, 0))) (hcur : cur.size = n * size) (cs : List Value) (hl : cs.length = n * size)
    (hsrc : 0 < n → ∃ ad, sp = some ad ∧ ∀ j v, cs[j]? = some v → w.cell? (ad.add j) = some v) (h1 : ∀ v ∈ cs, v.oneCell' = true) :
    (Builtin.copy_ #[dT, sT] ty #[.slice (some ⟨g, 0, none⟩) n dCap, .slice sp n sCap]).run P w = .ok (goInt n) (w.setRow g cs.toArray) := by
  cases hq : P.info? elem with
  | none => simp [hq] at hsz
  | some i =>
    have hi : i.size = size := by simpa [hq] using hsz
    have hsize : (sizeOf elem).run P w = .ok size w := by simp [sizeOf, typeInfo, hq, hi]
    have hst : (storeCells ⟨g, 0, none⟩ cs).run P w = .ok () (w.setRow g cs.toArray) := by
      have := run_storeCells_at P g 0 t cs 0 cur w hg (by omega) h1
      rw [this]
      congr 2
      simp
      omega
    have hfc : (Builtin.firstCells size n (.slice sp n sCap)).run P w = .ok cs.toArray w := by
      by_cases h0 : 0 < n
      · obtain ⟨ad, rfl, hc⟩ := hsrc h0
        exact run_firstCells_some w size n ad n sCap cs hl hc
      · have hn : n = 0 := by omega
        subst hn
        have : cs = [] := List.eq_nil_of_length_eq_zero (by simpa using hl)
        subst this
        cases sp with
        | none => exact run_firstCells_none w size 0 0 sCap
        | some ad => exact run_firstCells_some w size 0 ad 0 sCap [] (by simp) (by simp)
    unfold Builtin.copy_
    simp only [List.getElem?_toArray, List.getElem?_cons_zero, List.getElem?_cons_succ, Sem.run_bind, run_underlying hu, Result.andThen_ok, Builtin.lenOf, Sem.run_pure, hsize, Nat.min_self, hfc, hst]
theorem wpList_copy_full {P : Program} {w : World} {ops : Array Oper} {rest : List Oper} {o : Oper} {a : Act} {Q : Exit → Act → World → Prop} (hgd : o.guard = none) (d s : Operand) (dT sT : TypeId)
    (ho : o.op = .call { callee := .builtin .copy, args := #[d, s], argTypes := #[dT, sT] }) (elem : TypeId) (hu : P.underlying dT = some (.slice elem)) (size : Nat) (hsz : (P.info? elem).map (·.size) = some size)
    (g n dCap : Nat) (sp : Option Addr) (sCap : Nat) (hd : a.eval d = .slice (some ⟨g, 0, none⟩) n dCap) (hs : a.eval s = .slice sp n sCap) (cur : Array Value) (t : TypeId) (hg : Blk w g t cur) (hcur : cur.size = n * size)
    (cs : List Value) (hl : cs.length = n * size) (hsrc : 0 < n → ∃ ad, sp = some ad ∧ ∀ j v, cs[j]? = some v → w.cell? (ad.add j) = some v) (h1 : ∀ v ∈ cs, v.oneCell' = true)
    (h : ∀ w', Blk w' g t cs.toArray → Ch (fun b => b = g) w w' → wpList P ops Q rest (a.put o.dst (goInt n)) w') : wpList P ops Q (o :: rest) a w := by
  refine wpList_plain hgd fun K hK => ?_
  have hrun := run_copy_full (P := P) w dT sT o.type elem hu size hsz g n dCap sp sCap cur t hg hcur cs hl hsrc h1
  unfold Oper.wp
  simp [execOp, ho, resolve, invoke, builtin, hd, hs, hrun, Result.andThen]
  exact hK _ _ (h _ (setRow_heap w g cur _ t _ hg) ⟨rfl, rfl, rfl, by simp [World.setRow], fun k hk hn => setRow_other w g k _ hn⟩)
def madeX (z : Array Value) (n : Nat) : Array Value := madeCells z n
theorem madeX_size (z : Array Value) (n : Nat) : (madeX z n).size = n := by simp [madeX, madeCells]
theorem run_make_x {P : Program} (t e : TypeId) (z : Value) (size bytes : Nat) (ht : P.underlying t = some (.slice e)) (hi : (P.info? e).map (fun i => (i.zero, i.size, i.bytes)) = some (some z, size, bytes)) (hb : bytes ≤ 1000)
    (n : Nat) (hn : n ≤ 1000000) (w : World) : (Instr.makeSlice t (.int .i64 (n : Int)) (.int .i64 (n : Int))).run P w = .ok (.slice (some ⟨w.heap.size, 0, none⟩) n n) (w.alloc (.cells (madeX z.cells (n * size)) e)) := by
  obtain ⟨i, hi, hz0, hz1, hz2⟩ := info_parts hi
  have hle : bytes * n ≤ 1000000000 := Nat.mul_le_mul hb hn
  have hle' : (bytes : Int) * (n : Int) ≤ 281474976710656 := by rw [← Int.natCast_mul]; omega
  have hr := run_make (P := P) w t e i z ht hi hz0 .i64 .i64 n n (by omega) (Int.le_refl _) (by rw [hz2]; exact hle') (by omega)
  simp only [Int.toNat_natCast] at hr
  rw [hr, hz1]
  rfl
theorem calls_world {P : Program} {f : FuncId} {args : Array Value} {w : World} {R : Ending → World → Prop} (h : ∀ W, W = w → Calls P f args W R) : Calls P f args w R := h w rfl
end Go.Proofs.YtjcdknhejcbpiaaGreat
