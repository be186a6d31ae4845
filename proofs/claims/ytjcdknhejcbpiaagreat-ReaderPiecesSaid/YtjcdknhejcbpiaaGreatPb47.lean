/- Texts XRnC, XRnL, XRnK for XPcs, by trim.py. -/
import Derived.Test.YtjcdknhejcbpiaaGreatPb43
import Derived.Test.YtjcdknhejcbpiaaGreatPb44
import Derived.Test.YtjcdknhejcbpiaaGreatPb45
namespace Go.Proofs.YtjcdknhejcbpiaaGreat
open Go.RowKit
set_option linter.unusedVariables false
set_option linter.unusedSimpArgs false
set_option linter.unusedSectionVars false
theorem rev_tree {ns : List An} {x : Rv} {tx : List UInt8} (h : RevOk ns x tx) (h0 : 0 < tx.length) : ∃ jx t, x.at' = hdl jx ∧ Nt ns jx t ∧ t.text = tx ∧ x.h = (t.ht : Int) ∧ t.good ∧ ∃ s : ByteArray, buildT s = [t] := by
  obtain ⟨_, _, _, ⟨h, _⟩ | h⟩ := h
  · rw [h] at h0
    cases h0
  · exact h
theorem read_z (g : Nat) (r : Rd) (x : Rv) (pos num : Int) (h : num = 0) : Rd.read g r x pos num = { r with tx := .slice none 0 0, next := pos, need := num, ph := 1, dv := takenF g } := if_pos h
theorem read_n (g : Nat) (r : Rd) (x : Rv) (pos num : Int) (h : num ≠ 0) : Rd.read g r x pos num = { r with tx := .slice none 0 0, next := pos, need := num, ph := 12, dv := visF g, at' := x.at', rest := pos, base := ⟨0, 0, 0⟩ } := if_neg h
section
variable {B : Nat} {w0 w : World} {R : List Res} {σ σ' : RS} {bs' : List Bx} {y : Ly} {n m : Nat} {ts : List (List UInt8)}
/-- A read is set. -/
theorem begin_set (M : Mem B w0 (σ.L B ++ (boxR bs' :: R)) w) (K : RnOk σ y n m ts none) (hb : σ.r.busy = false) (c : Cop) (r' : Rd) (pg : Pg) (hr1 : r'.sb = σ.r.sb) (hr2 : r'.sl = σ.r.sl) (hr3 : r'.cl = σ.r.cl) (hr4 : r'.op = c.op) (tx' : List UInt8) (ht : (r'.tx = .slice none 0 0 ∧ tx' = []) ∨ (r'.tx = σ.r.tx ∧ tx' = σ.tx)) (hp : PgAt { σ with r := r', tx := tx' } bs' n m ts pg) (hk : pg.hk = none) (he : pg.ended = false) (hs : StartP σ ts c pg)
    (hck : ∀ W, Mem B w0 (RS.L B (σ.beg c.op) ++ (boxR bs' :: R)) W → Calls Tryz.prog 38 #[.pointer (some ⟨σ.g, 0, none⟩)] W (RdSet σ.g r' W (.tuple #[]))) :
    Calls Tryz.prog 13 #[.pointer (some ⟨σ.g, 0, none⟩), c.op.v] w (BegTo B w0 R σ y n m ts c) := by
  refine begin_of M K hb c fun W M1 K1 => ?_
  refine (hck W M1).mono ?_
  intro e w' hset
  have M2 : Mem B w0 (RS.L B { σ with r := r', tx := tx' } ++ (boxR bs' :: R)) w' := by
    rcases ht with ⟨h1, h2⟩ | ⟨h1, h2⟩
    · rw [h2]
      exact m_rdz M1 hset hr1 h1
    · rw [h2]
      exact m_set M1 hset hr1 h1
  obtain ⟨rfl, _, _⟩ := hset
  have S : Same σ { σ with r := r', tx := tx' } := ⟨rfl, hr1, hr3, rfl, rfl, rfl, rfl, rfl, rfl, rfl, rfl, rfl, rfl, rfl, rfl, rfl⟩
  exact ⟨rfl, _, _, M2, S, rfl, rfl, rfl, hr4, K.same S (K.O.rd r' tx' hr2 hr3) rfl rfl rfl, pg, hp, hk, he, hs⟩
theorem beg_next {k b : Nat} (M : Mem B w0 (σ.L B ++ (boxR bs' :: R)) w) (K : RnOk σ y n m ts none) (hb : σ.r.busy = false) (hk : k < n) :
    Calls Tryz.prog 13 #[.pointer (some ⟨σ.g, 0, none⟩), (Cop.next k b).op.v] w (BegTo B w0 R σ y n m ts (.next k b)) := by
  rcases slot_case K hk with h | ⟨s, i, tx, h, h1, h2, h3, h4, h5, h6, h7⟩
  · exact begin_free M K hb (.next k b) (fun e => by cases e) hk rfl (by simp [Cop.op]) h (fm12 σ.g σ.lb n _ k b K.O.sl (by omega) (by omega) (by omega))
  · have hxb : s.x.b = (tx.length : Int) := h3.1
    obtain ⟨c, hc⟩ : ∃ c : Nat, s.cu = (c : Int) := ⟨s.cu.toNat, by omega⟩
    have hmin : min (b : Int) (s.x.b - s.cu) = ((min b (tx.length - c) : Nat) : Int) := by rw [hxb, hc]; omega
    have hst : ∀ W, Mem B w0 (RS.L B (σ.beg (Cop.next k b).op) ++ (boxR bs' :: R)) W → Calls Tryz.prog 38 #[.pointer (some ⟨σ.g, 0, none⟩)] W (RdSet σ.g (Rd.read σ.g (σ.beg (Cop.next k b).op).r s.x c ((min b (tx.length - c) : Nat) : Int)) W (.tuple #[])) := fun W M1 => by
      have := start_12 σ.g σ.lb n k s.g (σ.beg (Cop.next k b).op).r _ s.x s.mv s.dv s.ix s.cu b W (m_rd M1) K.O.sl (m_sl M1).b rfl hk (sptr_at h) ((m_sl M1).s k s h).b (by omega) (by omega) ⟨h4, h5⟩
      rw [hmin, hc] at this
      exact this
    by_cases hb0 : min b (tx.length - c) = 0
    · rw [hb0] at hst
      refine begin_set M K hb (.next k b) { (σ.beg (Cop.next k b).op).r with tx := .slice none 0 0, next := (c : Int), need := ((0 : Nat) : Int), ph := 1, dv := takenF σ.g } (.take k true c) rfl rfl rfl rfl [] (.inl ⟨rfl, rfl⟩) ⟨rfl, rfl, rfl, rfl, rfl, rfl, rfl, rfl, s, h, by omega, by omega⟩ rfl rfl (.inr ⟨nofun, .inr ⟨s, i, tx, h, h1, h2, c, hc, .inl ⟨hb0, rfl⟩⟩⟩) fun W M1 => ?_
      have := hst W M1
      rw [read_z _ _ _ _ ((0 : Nat) : Int) rfl] at this
      exact this
    · obtain ⟨jx, t, t1, t2, t3, _⟩ := rev_tree h3 (by omega)
      have D : Dn (fun m => m.b) tx σ.ns jx ((c + 0 : Nat) : Int) (c : Int) ⟨0, 0, 0⟩ := by
        have := Dn.start (f := fun m => m.b) rfl t2 (n := ((c + 0 : Nat) : Int)) (by omega) (by rw [t3]; show _ < (tx.length : Int); omega)
        rw [t3] at this
        exact this
      refine begin_set M K hb (.next k b) { (σ.beg (Cop.next k b).op).r with tx := .slice none 0 0, next := (c : Int), need := ((min b (tx.length - c) : Nat) : Int), ph := 12, dv := visF σ.g, at' := s.x.at', rest := (c : Int), base := ⟨0, 0, 0⟩ } (.byte k true tx c (min b (tx.length - c)) 0 jx c ⟨0, 0, 0⟩) rfl rfl rfl rfl [] (.inl ⟨rfl, rfl⟩) ⟨rfl, rfl, rfl, rfl, rfl, rfl, ⟨s, i, h, h1, h2⟩, t1, rfl, rfl, rfl, rfl, by omega, by omega, rfl, D⟩ rfl rfl (.inr ⟨nofun, .inr ⟨s, i, tx, h, h1, h2, c, hc, .inr ⟨by omega, jx, t1, rfl⟩⟩⟩) fun W M1 => ?_
      have := hst W M1
      rw [read_n _ _ _ _ _ (by omega : ¬ (((min b (tx.length - c) : Nat) : Int) = 0))] at this
      exact this
end
end Go.Proofs.YtjcdknhejcbpiaaGreat
namespace Go.Proofs.YtjcdknhejcbpiaaGreat
open Go.RowKit
set_option linter.unusedVariables false
set_option linter.unusedSimpArgs false
set_option linter.unusedSectionVars false
mutual
def T.lvs : T → List ByteArray
  | .leaf s => [s]
  | .node _ ks => T.lvsL ks
def T.lvsL : List T → List ByteArray
  | [] => []
  | t :: ts => t.lvs ++ T.lvsL ts
end
def flatS (l : List ByteArray) : List UInt8 := (l.map fun s => s.data.toList).flatten
theorem flatS_app (a b : List ByteArray) : flatS (a ++ b) = flatS a ++ flatS b := by simp [flatS]
theorem flatS_cons (s : ByteArray) (l : List ByteArray) : flatS (s :: l) = s.data.toList ++ flatS l := by simp [flatS]
theorem flatS_one (s : ByteArray) : flatS [s] = s.data.toList := by simp [flatS]
theorem flatS_nil : flatS [] = [] := rfl
theorem lvsL_app (a b : List T) : T.lvsL (a ++ b) = T.lvsL a ++ T.lvsL b := by
  induction a with
  | nil => rfl
  | cons t l ih => simp [T.lvsL, ih]
theorem lvs_text (t : T) : t.text = flatS t.lvs := by
  induction t using T.ind with
  | hl s => rw [T.lvs, flatS_one]; rfl
  | hn h ks ih =>
    have hl : ∀ (l : List T), (∀ t ∈ l, t.text = flatS t.lvs) → T.textL l = flatS (T.lvsL l) := by
      intro l
      induction l with
      | nil => intro _; rfl
      | cons t ts ih' =>
        intro h
        rw [T.textL, T.lvsL, flatS_app, h t (by simp), ih' (fun t ht => h t (by simp [ht]))]
    exact hl ks ih
theorem lvsL_text (l : List T) : T.textL l = flatS (T.lvsL l) := by
  induction l with
  | nil => rfl
  | cons t ts ih => rw [T.textL, T.lvsL, flatS_app, lvs_text, ih]
theorem lvs_fit : ∀ (h : Nat) (t : T), T.fit h t → ∀ s ∈ t.lvs, 8 ≤ s.size
  | 0, .leaf s, hf, x, hx => by
    simp [T.lvs] at hx
    rw [hx]
    exact hf.1
  | 0, .node k ks, hf, _, _ => hf.elim
  | h + 1, .leaf s, hf, _, _ => hf.elim
  | h + 1, .node k ks, hf, x, hx => by
    have hl : ∀ (l : List T), (∀ t ∈ l, T.fit h t) → ∀ x ∈ T.lvsL l, 8 ≤ x.size := by
      intro l
      induction l with
      | nil => intro _ x hx; simp [T.lvsL] at hx
      | cons t ts ih =>
        intro hf x hx
        simp [T.lvsL] at hx
        rcases hx with hx | hx
        · exact lvs_fit h t (hf t (by simp)) x hx
        · exact ih (fun t ht => hf t (by simp [ht])) x hx
    exact hl ks hf.2.2.2 x hx
theorem lvs_pos {t : T} (h : t.good) : ∀ s ∈ t.lvs, 0 < s.size := by
  rcases h with ⟨s, rfl, h1, _⟩ | ⟨k, _, h⟩
  · intro x hx
    simp [T.lvs] at hx
    rw [hx]
    exact h1
  · intro x hx
    have := lvs_fit k t h x hx
    omega
/-- A place where a leaf ends is where the next begins. -/
theorem bnd : ∀ (A A' : List ByteArray) (C C' : List ByteArray) (s' : ByteArray), A ++ C = A' ++ s' :: C' → (∀ s ∈ A ++ C, 0 < s.size) → (flatS A').length ≤ (flatS A).length → (flatS A).length < (flatS A').length + s'.size → A = A'
  | [], [], _, _, _, _, _, _, _ => rfl
  | [], a :: A', C, C', s', h, hp, h1, _ => by
    rw [List.nil_append] at h hp
    have := hp a (by rw [h]; simp)
    rw [flatS_cons, List.length_append, dsize, flatS_nil, List.length_nil] at h1
    omega
  | a :: A, [], C, C', s', h, hp, _, h2 => by
    rw [List.cons_append, List.nil_append] at h
    injection h with h _
    rw [flatS_cons, List.length_append, dsize, flatS_nil, List.length_nil, h] at h2
    omega
  | a :: A, a' :: A', C, C', s', h, hp, h1, h2 => by
    rw [List.cons_append, List.cons_append] at h
    injection h with h h'
    subst h
    rw [flatS_cons, List.length_append, flatS_cons, List.length_append] at h1 h2
    rw [bnd A A' C C' s' h' (fun s hs => hp s (by rw [List.cons_append]; exact List.mem_cons_of_mem _ hs)) (by omega) (by omega)]
theorem nt_kidL {ns : List An} {ix : Nat} {u : T} (h : Nt ns ix u) {y : An} (hy : ns[ix]? = some y) (h0 : y.x.h ≠ 0) {i : Nat} {k : Kd} (hk : y.x.ks[i]? = some k) :
    ∃ t A C, Nt ns k.at' t ∧ u.lvs = A ++ t.lvs ++ C ∧ mL (flatS A) = msum ((y.x.ks.map Kd.m).take i) ∧ k.m = mL t.text := by
  cases h with
  | leaf hi e =>
    rw [hy] at hi; injection hi with hi; subst hi
    rw [e] at h0
    exact absurd rfl h0
  | node hi e hl hm hkk =>
    rename_i hh ks y' kd
    rw [hy] at hi; injection hi with hi; subst hi
    rw [e] at hk ⊢
    simp only at hk ⊢
    have hlt : i < ks.length := by rw [← hl]; exact (List.getElem?_eq_some_iff.1 hk).1
    obtain ⟨t, ht⟩ : ∃ t, ks[i]? = some t := ⟨ks[i], List.getElem?_eq_getElem hlt⟩
    refine ⟨t, T.lvsL (ks.take i), T.lvsL (ks.drop (i + 1)), hkk i k t hk ht, ?_, ?_, by rw [hm i k t hk ht, meas_text]⟩
    · have e2 : ks = ks.take i ++ (t :: ks.drop (i + 1)) := by
        have hx : ks[i] = t := (List.getElem?_eq_some_iff.1 ht).2
        rw [← hx, ← List.drop_eq_getElem_cons hlt, List.take_append_drop]
      show T.lvsL ks = _
      conv => lhs; rw [e2]
      rw [lvsL_app, T.lvsL, List.append_assoc]
    · have hms : (kd.map Kd.m).take i = (ks.take i).map T.meas := by
        apply List.ext_getElem?
        intro j
        rw [List.getElem?_take, List.getElem?_map, List.getElem?_map, List.getElem?_take]
        by_cases hj : j < i
        · rw [if_pos hj, if_pos hj]
          have hjl : j < kd.length := by rw [hl]; omega
          have hjk : j < ks.length := by omega
          rw [List.getElem?_eq_getElem hjl, List.getElem?_eq_getElem hjk]
          simp only [Option.map_some]
          rw [hm j _ _ (List.getElem?_eq_getElem hjl) (List.getElem?_eq_getElem hjk)]
        · rw [if_neg hj, if_neg hj]; rfl
      rw [hms, ← lvsL_text]
      have hl2 : ∀ (l : List T), msum (l.map T.meas) = mL (T.textL l) := by
        intro l
        induction l with
        | nil => rfl
        | cons t ts ih => simp only [List.map_cons, T.textL]; rw [msum_cons, mL_app, ih, meas_text]
      rw [hl2]
/-- On the way down to an offset: the leaves ahead of the subtree. -/
structure Wy (t : T) (ns : List An) (p : Nat) (ix : Nat) (rest : Int) (u : T) : Prop where
  nt : Nt ns ix u
  ex : ∃ A C, t.lvs = A ++ u.lvs ++ C ∧ ((flatS A).length : Int) + rest = (p : Int) ∧ 0 ≤ rest ∧ rest < (u.text.length : Int)
theorem Wy.start {t : T} {ns : List An} {p ix : Nat} (h : Nt ns ix t) (hp : p < t.text.length) : Wy t ns p ix (p : Int) t := ⟨h, [], [], by simp, by simp [flatS], by omega, by omega⟩
theorem Wy.app {t : T} {ns : List An} {p ix : Nat} {rest : Int} {u : T} (h : Wy t ns p ix rest u) (ys : List An) : Wy t (ns ++ ys) p ix rest u := ⟨h.nt.app, h.ex⟩
theorem Wy.down {t : T} {ns : List An} {p ix : Nat} {rest : Int} {u : T} (h : Wy t ns p ix rest u) (P : ArP ns) {y : An} (hy : ns[ix]? = some y) (h0 : y.x.h ≠ 0) {i : Nat} {k : Kd} {q : Int} (hk : y.x.ks[i]? = some k) (hc : Chosen (fun m => m.b) (y.x.ks.map Kd.m) rest i q) :
    ∃ u', Wy t ns p k.at' q u' ∧ u'.ht + 1 = u.ht := by
  obtain ⟨u', A', C', hn, e1, e2, e3⟩ := nt_kidL h.nt hy h0 hk
  obtain ⟨A, C, f1, f2, f3, f4⟩ := h.ex
  obtain ⟨⟨mm, hmm, hlt⟩, hq0, heq⟩ := hc
  have hmm' : mm = k.m := by
    rw [List.getElem?_map, hk] at hmm
    simp at hmm
    exact hmm.symm
  refine ⟨u', ⟨hn, A ++ A', C' ++ C, by rw [f1, e1]; simp, ?_, hq0, ?_⟩, ?_⟩
  · rw [flatS_app, List.length_append]
    have : ((flatS A').length : Int) = (msum ((y.x.ks.map Kd.m).take i)).b := by rw [← e2]; rfl
    push_cast
    omega
  · rw [hmm', e3] at hlt
    exact hlt
  · obtain ⟨_, z, hz, hzh, _⟩ := P.kids ix y hy k (List.mem_of_getElem? hk)
    have a := nt_ht hn hz
    have b := nt_ht h.nt hy
    omega
def remB (N d : Nat) : Nat := if d = 0 then (N + 6) / 8 else (N - d + 7) / 8 - 1
/-- How many steps a read still takes. -/
inductive RdK (t : T) (σ : RS) : Nat → Pg → Prop
  | loc (x : RsV) : RdK t σ 1 (.loc x)
  | rel (k : Nat) : RdK t σ 1 (.rel k)
  | seek (k : Nat) (pos : Int) : RdK t σ 1 (.seek k pos)
  | take (k : Nat) (a : Bool) (pos : Int) : RdK t σ 1 (.take k a pos)
  | rune {k : Nat} {tx : List UInt8} {q ix : Nat} {rest : Int} {base : Ms} (u : T) (h : Nt σ.ns ix u) : RdK t σ (u.ht + 1) (.rune k tx q ix rest base)
  | line {k : Nat} {tx : List UInt8} {q ix : Nat} {rest : Int} {base : Ms} (u : T) (h : Nt σ.ns ix u) : RdK t σ (u.ht + 1) (.line k tx q ix rest base)
  | byte {k : Nat} {a : Bool} {tx : List UInt8} {p0 N d ix : Nat} {rest : Int} {base : Ms} (u : T) (h : Wy t σ.ns (p0 + d) ix rest u) (hb : d = 0 ∨ ∃ A C, t.lvs = A ++ C ∧ (flatS A).length = p0 + d) (hs : ∃ s jx, σ.sl[k]? = some (some s) ∧ s.x.at' = hdl jx ∧ Nt σ.ns jx t) (hd : d < N) (hl : p0 + N ≤ t.text.length) : RdK t σ (u.ht + 1 + (t.ht + 1) * remB N d) (.byte k a tx p0 N d ix rest base)
theorem RdK.pos {t : T} {σ : RS} {f : Nat} {pg : Pg} (h : RdK t σ f pg) : 0 < f := by
  cases h <;> omega
theorem RdK.run {t : T} {σ : RS} {f : Nat} {pg : Pg} (h : RdK t σ f pg) : pg.ended = false ∧ pg.hk = none := by
  cases h <;> exact ⟨rfl, rfl⟩
/-- What other threads do changes nothing in that. -/
theorem RdK.move {t : T} {σ σ' : RS} {f : Nat} {pg : Pg} (h : RdK t σ f pg) {ys : List An} (h1 : σ'.ns = σ.ns ++ ys) (h2 : σ'.sl = σ.sl) : RdK t σ' f pg := by
  cases h with
  | loc x => exact .loc x
  | rel k => exact .rel k
  | seek k pos => exact .seek k pos
  | take k a pos => exact .take k a pos
  | rune u h => exact .rune u (by rw [h1]; exact h.app)
  | line u h => exact .line u (by rw [h1]; exact h.app)
  | byte u h hb hs hd hl =>
    obtain ⟨s, jx, a, b, c⟩ := hs
    exact .byte u (by rw [h1]; exact h.app ys) hb ⟨s, jx, by rw [h2]; exact a, b, by rw [h1]; exact c.app⟩ hd hl
theorem rdK_step {t : T} {σ σ' : RS} {m f : Nat} {hv : Int} {pg pg' : Pg} (h : RdK t σ f pg) (S : Same σ σ') (P : ArP σ.ns) (hg : t.good) (hn : Nxt σ σ' m hv pg' pg) : pg'.ended = true ∨ (pg'.ended = false ∧ ∃ f', f' + 1 ≤ f ∧ RdK t σ' f' pg') := by
  cases h with
  | loc x => obtain ⟨_, _, _, rfl⟩ := hn; exact .inl rfl
  | rel k => obtain ⟨_, _, _, rfl⟩ := hn; exact .inl rfl
  | seek k pos => obtain ⟨_, _, _, rfl⟩ := hn; exact .inl rfl
  | take k a pos => obtain ⟨_, _, _, rfl⟩ := hn; exact .inl rfl
  | rune u h =>
    obtain ⟨_, _, _, z, hz, ⟨h0, ci, k', r, hk, hc, rfl⟩ | ⟨_, rfl⟩⟩ := hn
    · obtain ⟨u', A', C', hn, _⟩ := nt_kidL h hz h0 hk
      obtain ⟨_, z', hz', hzh, _⟩ := P.kids _ z hz k' (List.mem_of_getElem? hk)
      have a := nt_ht hn hz'
      have b := nt_ht h hz
      exact .inr ⟨rfl, u'.ht + 1, by omega, .rune u' (by rw [S.ns]; exact hn)⟩
    · exact .inl rfl
  | line u h =>
    obtain ⟨_, _, _, z, hz, ⟨h0, ci, k', r, hk, hc, rfl⟩ | ⟨_, rfl⟩⟩ := hn
    · obtain ⟨u', A', C', hn, _⟩ := nt_kidL h hz h0 hk
      obtain ⟨_, z', hz', hzh, _⟩ := P.kids _ z hz k' (List.mem_of_getElem? hk)
      have a := nt_ht hn hz'
      have b := nt_ht h hz
      exact .inr ⟨rfl, u'.ht + 1, by omega, .line u' (by rw [S.ns]; exact hn)⟩
    · exact .inl rfl
  | byte u h hb hs hd hl =>
    rename_i k a tx p0 N d ix rest base
    obtain ⟨s0, j0, g1, g2, g3⟩ := hs
    obtain ⟨_, _, z, hz, ⟨h0, hsl, ci, k', q, hk, hc, rfl⟩ | ⟨h0, c, rn, hrn, hcm, ⟨hlt, hsl, jx, rfl, s, hs, hsj⟩ | ⟨_, _, rfl⟩⟩⟩ := hn
    · obtain ⟨u', hw, hht⟩ := h.down P hz h0 hk hc
      exact .inr ⟨rfl, u'.ht + 1 + (t.ht + 1) * remB N d, by omega, .byte u' (by rw [S.ns]; exact hw) hb ⟨s0, j0, by rw [hsl]; exact g1, g2, by rw [S.ns]; exact g3⟩ hd hl⟩
    · have hu : u = .leaf z.x.s := nt_leaf h.nt hz h0 P
      obtain ⟨A, C, e1, e2, e3, e4⟩ := h.ex
      rw [hu] at e1 e4
      have e4' : rn < z.x.s.size := by
        have : rest < ((T.leaf z.x.s).text.length : Int) := e4
        rw [text_len] at this
        have e9 : (T.leaf z.x.s).bytes = z.x.s.size := rfl
        rw [e9] at this
        omega
      have hcc : c = z.x.s.size - rn := by omega
      have e1' : t.lvs = (A ++ [z.x.s]) ++ C := e1
      have hpos := lvs_pos hg
      have hjj : jx = j0 := by
        rw [hs] at g1
        injection g1 with g1
        injection g1 with g1
        subst g1
        rw [hsj] at g2
        exact hdl_inj g2
      subst hjj
      have hbound : (flatS (A ++ [z.x.s])).length = p0 + (d + c) := by
        rw [flatS_app, List.length_append, flatS_one, dsize]
        omega
      refine .inr ⟨rfl, t.ht + 1 + (t.ht + 1) * remB N (d + c), ?_, .byte t (by rw [S.ns]; exact Wy.start g3 (by omega)) (.inr ⟨A ++ [z.x.s], C, e1', hbound⟩) ⟨s, jx, by rw [hsl]; exact hs, hsj, by rw [S.ns]; exact g3⟩ hlt hl⟩
      have hrem : remB N (d + c) + 1 ≤ remB N d := by
        rcases Nat.eq_zero_or_pos d with hd0 | hd0
        · subst hd0
          unfold remB
          rw [if_neg (by omega), if_pos rfl]
          omega
        · have hrest : rn = 0 := by
            rcases hb with hb | ⟨A2, C2, b1, b2⟩
            · omega
            · have b3 : A2 ++ C2 = A ++ z.x.s :: C := by rw [← b1, e1']; simp
              have := bnd A2 A C2 C z.x.s b3 (fun s hs => hpos s (by rw [b1]; exact hs)) (by omega) (by omega)
              rw [this] at b2
              omega
          have h8 : 8 ≤ z.x.s.size := by
            rcases hg with ⟨s', rfl, _, _⟩ | ⟨k9, _, hfit⟩
            · exfalso
              have e5 : [s'] = A ++ z.x.s :: C := by have e6 := e1'; rw [List.append_assoc] at e6; exact e6
              cases A with
              | nil => simp [flatS] at e2; omega
              | cons a A =>
                rw [List.cons_append] at e5
                injection e5 with _ e5
                cases A <;> cases e5
            · exact lvs_fit k9 t hfit z.x.s (by rw [e1']; simp)
          unfold remB
          rw [if_neg (by omega), if_neg (by omega)]
          omega
      have hmul : (t.ht + 1) * (remB N (d + c) + 1) ≤ (t.ht + 1) * remB N d := Nat.mul_le_mul_left _ hrem
      rw [Nat.mul_add, Nat.mul_one] at hmul
      omega
    · exact .inl rfl
/-- What a read will end with; what it does to the slots. -/
def Pg.out : Pg → RsV
  | .fin x => x
  | .loc x => x
  | .seek _ pos => { RsV.zero with at' := pos }
  | .take _ a pos => { RsV.zero with at' := if a then pos else 0 }
  | .byte _ a tx p0 N _ _ _ _ => { RsV.zero with s := ⟨((tx.drop p0).take N).toArray⟩, at' := if a then ((p0 + N : Nat) : Int) else 0 }
  | .rune _ tx q _ _ _ => { RsV.zero with at' := ((nthP begB (u8s tx) q : Nat) : Int) }
  | .line _ tx q _ _ _ => { RsV.zero with at' := ((nthP isLF (u8s tx) q : Nat) : Int) + 1 }
  | _ => RsV.zero
def setCur (l : List (Option Snp)) (k : Nat) (c : Int) : List (Option Snp) := match l[k]? with
  | some (some s) => l.set k (some { s with cu := c })
  | _ => l
theorem setCur_at {l : List (Option Snp)} {k : Nat} {s : Snp} (c : Int) (h : l[k]? = some (some s)) : setCur l k c = l.set k (some { s with cu := c }) := by
  unfold setCur
  rw [h]
def Pg.eff (l : List (Option Snp)) : Pg → List (Option Snp)
  | .seek k pos => setCur l k pos
  | .take k a pos => if a then setCur l k pos else l
  | .byte k a _ p0 N _ _ _ _ => if a then setCur l k ((p0 + N : Nat) : Int) else l
  | .rel k => l.set k none
  | _ => l
/-- A read, but for a release. -/
def Pg.reads : Pg → Bool
  | .loc _ => true
  | .seek _ _ => true
  | .take _ _ _ => true
  | .byte _ _ _ _ _ _ _ _ _ => true
  | .rune _ _ _ _ _ _ => true
  | .line _ _ _ _ _ _ => true
  | _ => false
theorem nxt_out {σ σ' : RS} {m : Nat} {hv : Int} {pg pg' : Pg} (hr : pg.reads = true) (hn : Nxt σ σ' m hv pg' pg) : pg'.out = pg.out ∧ σ'.s = σ.s ∧ ((pg'.ended = true ∧ σ'.sl = pg.eff σ.sl) ∨ (pg'.ended = false ∧ pg'.reads = true ∧ σ'.sl = σ.sl ∧ ∀ l, pg'.eff l = pg.eff l)) := by
  cases pg with
  | fin x => cases hr
  | clos => cases hr
  | ep k => cases hr
  | ann k v => cases hr
  | root k => cases hr
  | rel k => cases hr
  | loc x => obtain ⟨_, h1, h2, rfl⟩ := hn; exact ⟨rfl, h1, .inl ⟨rfl, h2⟩⟩
  | seek k pos => obtain ⟨_, h1, ⟨s, hs, h2⟩, rfl⟩ := hn; exact ⟨rfl, h1, .inl ⟨rfl, by rw [Pg.eff, setCur_at pos hs]; exact h2⟩⟩
  | take k a pos =>
    obtain ⟨_, h1, h2, rfl⟩ := hn
    cases a with
    | false => exact ⟨rfl, h1, .inl ⟨rfl, h2⟩⟩
    | true =>
      obtain ⟨s, hs, h2⟩ := h2
      exact ⟨rfl, h1, .inl ⟨rfl, by simp only [Pg.eff, if_true]; rw [setCur_at pos hs]; exact h2⟩⟩
  | byte k a tx p0 N d ix rest base =>
    obtain ⟨_, h1, z, hz, ⟨h0, hsl, ci, k', q, hk, hc, rfl⟩ | ⟨h0, c, rn, hrn, hcm, ⟨hlt, hsl, jx, rfl, s, hs, hsj⟩ | ⟨_, h2, rfl⟩⟩⟩ := hn
    · exact ⟨rfl, h1, .inr ⟨rfl, rfl, hsl, fun _ => rfl⟩⟩
    · exact ⟨rfl, h1, .inr ⟨rfl, rfl, hsl, fun _ => rfl⟩⟩
    · cases a with
      | false => exact ⟨rfl, h1, .inl ⟨rfl, h2⟩⟩
      | true =>
        obtain ⟨s, hs, h2⟩ := h2
        exact ⟨rfl, h1, .inl ⟨rfl, by simp only [Pg.eff, if_true]; rw [setCur_at _ hs]; exact h2⟩⟩
  | rune k tx q ix rest base =>
    obtain ⟨_, h1, h2, z, hz, ⟨h0, ci, k', r, hk, hc, rfl⟩ | ⟨_, rfl⟩⟩ := hn
    · exact ⟨rfl, h1, .inr ⟨rfl, rfl, h2, fun _ => rfl⟩⟩
    · exact ⟨rfl, h1, .inl ⟨rfl, h2⟩⟩
  | line k tx q ix rest base =>
    obtain ⟨_, h1, h2, z, hz, ⟨h0, ci, k', r, hk, hc, rfl⟩ | ⟨_, rfl⟩⟩ := hn
    · exact ⟨rfl, h1, .inr ⟨rfl, rfl, h2, fun _ => rfl⟩⟩
    · exact ⟨rfl, h1, .inl ⟨rfl, h2⟩⟩
end Go.Proofs.YtjcdknhejcbpiaaGreat
namespace Go.Proofs.YtjcdknhejcbpiaaGreat
open Go.RowKit
set_option linter.unusedVariables false
set_option linter.unusedSimpArgs false
set_option linter.unusedSectionVars false
theorem build_ht {s : ByteArray} {t : T} (h : buildT s = [t]) (h0 : 0 < s.size) : 4 ^ t.ht < 4 * grpN s.size 16 := by
  have hl := base_len s
  have hg : 0 < grpN s.size 16 := grp_pos h0 (by decide)
  by_cases h1 : (baseT s).length ≤ 1
  · rw [buildT, topT_le h1] at h
    have ht : t ∈ baseT s := by rw [h]; simp
    simp only [baseT, List.mem_map] at ht
    obtain ⟨x, _, rfl⟩ := ht
    show 4 ^ 0 < _
    omega
  · obtain ⟨k, t', e, hf, _, hk⟩ := topT_fit (baseT s) 0 (base_fit (by omega)) (by omega)
    rw [buildT] at h
    rw [h] at e
    injection e with e _
    subst e
    rw [T.fit_ht hf, Nat.zero_add, ← hl]
    exact hk
theorem build_ht3 {s : ByteArray} {t : T} (h : buildT s = [t]) (h0 : 0 < s.size) (h3 : s.size ≤ 300) : t.ht ≤ 3 := by
  have a := build_ht h h0
  have b := (grp_le (n := s.size) (m := 16) (by decide)).2
  rcases Nat.lt_or_ge 3 t.ht with hlt | hge
  · have : 4 ^ 4 ≤ 4 ^ t.ht := Nat.pow_le_pow_right (by decide) hlt
    omega
  · exact hge
theorem fit_lvs : ∀ {h : Nat} {t : T}, T.fit h t → t.lvs ≠ []
  | 0, .leaf s, _ => by simp [T.lvs]
  | 0, .node k ks, hf => hf.elim
  | h + 1, .leaf s, hf => hf.elim
  | h + 1, .node k ks, hf => by
    intro e
    cases ks with
    | nil => have := hf.2.1; simp at this
    | cons a l =>
      rw [T.lvs, T.lvsL] at e
      exact fit_lvs (hf.2.2.2 a (by simp)) (List.append_eq_nil_iff.1 e).1
theorem cntP_nil (p : Int → Bool) : cntP p (u8s []) = 0 := rfl
theorem leaf_good : (T.leaf ⟨#[0]⟩).good := .inl ⟨⟨#[0]⟩, rfl, by decide, by decide⟩
/-- A read, once begun, takes at most two hundred steps. -/
theorem start_rd {σ : RS} {y : Ly} {n m : Nat} {ts : List (List UInt8)} {c : Cop} {pg : Pg} (K : RnOk σ y n m ts none) (hc : c ≠ .acq) (hr : ∀ k, c ≠ .rel k) (hk : c.slot < n) (h3 : ∀ tx ∈ ts, tx.length ≤ 300) (h : StartP σ ts c pg) :
    ∃ t f, t.good ∧ RdK t σ f pg ∧ pg.reads = true ∧ f ≤ 200 := by
  rcases h with ⟨h, _⟩ | ⟨_, ⟨_, rfl⟩ | ⟨s, i, tx, hs, hi, ht, hp⟩⟩
  · exact absurd h hc
  · exact ⟨_, 1, leaf_good, .loc _, rfl, by decide⟩
  · rcases slot_case K hk with h0 | ⟨s', i', tx', hs', hi', ht', hrv, _, _, _, _⟩
    · rw [hs] at h0; cases h0
    · rw [hs] at hs'
      injection hs' with hs'; injection hs' with hs'; subst hs'
      obtain rfl : i = i' := by rw [hi] at hi'; omega
      rw [ht] at ht'
      injection ht' with ht'; subst ht'
      have hlen := h3 tx (List.mem_of_getElem? ht)
      rcases hrv.2.2.2 with ⟨rfl, _⟩ | ⟨ix, t, e1, e2, e3, e4, hg, sb, hb⟩
      · have L : ∀ x, ∃ t f, t.good ∧ RdK t σ f (.loc x) ∧ (Pg.loc x).reads = true ∧ f ≤ 200 := fun x => ⟨_, 1, leaf_good, .loc _, rfl, by decide⟩
        cases c with
        | acq => exact absurd rfl hc
        | rel k => exact absurd rfl (hr k)
        | len k => rw [show pg = _ from hp]; exact L _
        | read k a b =>
          rcases hp with ⟨_, rfl⟩ | ⟨_, _, rfl⟩ | ⟨h1, h2, _⟩
          · exact L _
          · exact ⟨_, 1, leaf_good, .take _ _ _, rfl, by decide⟩
          · rw [List.length_nil] at h1; omega
        | rune k b =>
          rcases hp with ⟨_, rfl⟩ | ⟨_, rfl⟩ | ⟨h1, _⟩
          · exact L _
          · exact L _
          · rw [cntP_nil] at h1; omega
        | line k b =>
          rcases hp with ⟨_, rfl⟩ | ⟨_, rfl⟩ | ⟨h1, h2, _⟩
          · exact L _
          · exact L _
          · rw [cntP_nil] at h1; omega
        | mark k i =>
          rcases hp with ⟨_, rfl⟩ | ⟨_, _, _, rfl⟩
          · exact L _
          · exact L _
        | seek k a =>
          rcases hp with ⟨_, rfl⟩ | ⟨_, rfl⟩
          · exact L _
          · exact ⟨_, 1, leaf_good, .seek _ _, rfl, by decide⟩
        | next k b =>
          obtain ⟨c, _, ⟨_, rfl⟩ | ⟨h1, _⟩⟩ := hp
          · exact ⟨_, 1, leaf_good, .take _ _ _, rfl, by decide⟩
          · rw [List.length_nil] at h1; omega
      · have hsz : sb.size = tx.length := by rw [← e3, build_text hb]; exact (dsize sb).symm
        have hpos : 0 < sb.size := by
          rcases Nat.eq_zero_or_pos sb.size with h0 | h0
          · exfalso
            have := build_bytes sb
            rw [hb, h0] at this
            have h1 := lvs_pos hg
            have h2 : t.text.length = 0 := by rw [e3]; omega
            have h4 : t.lvs ≠ [] := by
              rcases hg with ⟨s, rfl, _⟩ | ⟨k, _, hf⟩
              · simp [T.lvs]
              · exact fit_lvs hf
            rw [lvs_text] at h2
            cases hl : t.lvs with
            | nil => exact h4 hl
            | cons a l =>
              rw [hl, flatS_cons, List.length_append, dsize] at h2
              have := h1 a (by rw [hl]; simp)
              omega
          · exact h0
        have hht := build_ht3 hb hpos (by omega)
        have L : ∀ x, ∃ t f, t.good ∧ RdK t σ f (.loc x) ∧ (Pg.loc x).reads = true ∧ f ≤ 200 := fun x => ⟨_, 1, leaf_good, .loc _, rfl, by decide⟩
        have BY : ∀ (k : Nat) (a : Bool) (p0 N jx : Nat), c.slot = k → s.x.at' = hdl jx → 0 < N → p0 + N ≤ tx.length → ∃ t f, t.good ∧ RdK t σ f (.byte k a tx p0 N 0 jx p0 ⟨0, 0, 0⟩) ∧ (Pg.byte k a tx p0 N 0 jx p0 ⟨0, 0, 0⟩).reads = true ∧ f ≤ 200 := by
          intro k a p0 N jx hk hj hN hl
          obtain rfl : jx = ix := hdl_inj (by rw [← hj, e1])
          have hl' : p0 + N ≤ t.text.length := by rw [e3]; exact hl
          refine ⟨t, t.ht + 1 + (t.ht + 1) * remB N 0, hg, .byte t (Wy.start e2 (by omega)) (.inl rfl) ⟨s, jx, by rw [← hk]; exact hs, e1, e2⟩ hN hl', rfl, ?_⟩
          have hr1 : remB N 0 ≤ 38 := by unfold remB; rw [if_pos rfl]; omega
          have : (t.ht + 1) * remB N 0 ≤ 4 * 38 := Nat.mul_le_mul (by omega) hr1
          omega
        cases c with
        | acq => exact absurd rfl hc
        | rel k => exact absurd rfl (hr k)
        | len k => rw [show pg = _ from hp]; exact L _
        | read k a b =>
          rcases hp with ⟨_, rfl⟩ | ⟨_, _, rfl⟩ | ⟨h1, h2, jx, hj, rfl⟩
          · exact L _
          · exact ⟨_, 1, leaf_good, .take _ _ _, rfl, by decide⟩
          · exact BY k false a b jx rfl hj h2 h1
        | rune k b =>
          rcases hp with ⟨_, rfl⟩ | ⟨_, rfl⟩ | ⟨h1, jx, hj, rfl⟩
          · exact L _
          · exact L _
          · obtain rfl : jx = ix := hdl_inj (by rw [← hj, e1])
            exact ⟨t, t.ht + 1, hg, .rune t e2, rfl, by omega⟩
        | line k b =>
          rcases hp with ⟨_, rfl⟩ | ⟨_, rfl⟩ | ⟨h1, h2, jx, hj, rfl⟩
          · exact L _
          · exact L _
          · obtain rfl : jx = ix := hdl_inj (by rw [← hj, e1])
            exact ⟨t, t.ht + 1, hg, .line t e2, rfl, by omega⟩
        | mark k i =>
          rcases hp with ⟨_, rfl⟩ | ⟨_, _, _, rfl⟩
          · exact L _
          · exact L _
        | seek k a =>
          rcases hp with ⟨_, rfl⟩ | ⟨_, rfl⟩
          · exact L _
          · exact ⟨_, 1, leaf_good, .seek _ _, rfl, by decide⟩
        | next k b =>
          obtain ⟨c, _, ⟨_, rfl⟩ | ⟨h1, jx, hj, rfl⟩⟩ := hp
          · exact ⟨_, 1, leaf_good, .take _ _ _, rfl, by decide⟩
          · exact BY k true c _ jx rfl hj h1 (by omega)
section
variable {B : Nat} {w0 w : World} {R : List Res} {σ : RS} {bs' : List Bx} {y : Ly} {n m : Nat} {ts : List (List UInt8)}
/-- A read from beginning to end: what it answers and does is told by what its beginning found. -/
theorem fin_rd {c : Cop} (M : Mem B w0 (σ.L B ++ (boxR bs' :: R)) w) (K : RnOk σ y n m ts none) (hl : σ.s.lg.length < 700000) (hc : c ≠ .acq) (hr : ∀ k, c ≠ .rel k) (hk : c.slot < n) (h3 : ∀ tx ∈ ts, tx.length ≤ 300)
    (hbeg : ∀ R W, Mem B w0 (σ.L B ++ (boxR bs' :: R)) W → Calls Tryz.prog 13 #[.pointer (some ⟨σ.g, 0, none⟩), c.op.v] W (BegTo B w0 R σ y n m ts c)) :
    Calls Tryz.prog 12 #[.pointer (some ⟨σ.g, 0, none⟩), c.op.v] w (FinTo B w0 R σ y n m ts (fun _ σ' x => σ'.s = σ.s ∧ ∃ pg, StartP σ ts c pg ∧ x = pg.out ∧ σ'.sl = pg.eff σ.sl)) := by
  refine finish_any c (fun f _ σ1 pg => σ1.s = σ.s ∧ σ1.sl = σ.sl ∧ pg.reads = true ∧ ∃ t, t.good ∧ RdK t σ1 f pg ∧ ∃ pg0, StartP σ ts c pg0 ∧ pg.out = pg0.out ∧ ∀ l, pg.eff l = pg0.eff l) _ M hl (fun R' W M' => hbeg R' W M') (fun σ1 bs1 pg S h1 h2 K1 _ hs => ?_) (fun f phs σ1 σ2 hv pg pg' hK K1 K2 S1 S2 hn => ?_) (fun f phs σ1 pg hK => ?_)
  · obtain ⟨t, f, hg, hk, hrd, hf⟩ := start_rd K hc hr hk h3 hs
    exact ⟨f, hf, h1, h2, hrd, t, hg, hk.move (ys := []) (by rw [S.ns, List.append_nil]) h2, pg, hs, rfl, fun _ => rfl⟩
  · obtain ⟨a1, a2, a3, t, hg, hk, pg0, b1, b2, b3⟩ := hK
    obtain ⟨c1, c2, c3⟩ := nxt_out a3 hn
    rcases c3 with ⟨he, hsl⟩ | ⟨he, hrd, hsl, heff⟩
    · obtain ⟨x, rfl⟩ : ∃ x, pg' = .fin x := by
        cases pg' <;> first | exact ⟨_, rfl⟩ | cases he
      exact .inl ⟨x, rfl, c2.trans a1, pg0, b1, by rw [← b2, ← c1]; rfl, by rw [hsl, a2, b3]⟩
    · rcases rdK_step hk S2 K1.P hg hn with h | ⟨_, f', hf, hk'⟩
      · rw [he] at h; cases h
      · exact .inr ⟨he, f', hf, c2.trans a1, hsl.trans a2, hrd, t, hg, hk', pg0, b1, c1.trans b2, fun l => (heff l).trans (b3 l)⟩
  · obtain ⟨_, _, _, _, _, hk, _⟩ := hK
    exact hk.pos
end
end Go.Proofs.YtjcdknhejcbpiaaGreat
