/- Texts XRnB, XRnQ for XPcs, by trim.py. -/
import Derived.Test.YtjcdknhejcbpiaaGreatPb42
namespace Go.Proofs.YtjcdknhejcbpiaaGreat
open Go.RowKit
set_option linter.unusedVariables false
set_option linter.unusedSimpArgs false
set_option linter.unusedSectionVars false
def errP (e : Int) : Pg := .loc { RsV.zero with er := e }
/-- The first step, where the slot is held and shows a text. -/
def RunP (s : Snp) (tx : List UInt8) (pg : Pg) : Cop → Prop
  | .acq => False
  | .len k => pg = .loc { RsV.zero with b := (mL tx).b, r := (mL tx).r, l := (mL tx).l }
  | .read k a b => (tx.length < a + b ∧ pg = errP 3) ∨ (a + b ≤ tx.length ∧ b = 0 ∧ pg = .take k false a) ∨ (a + b ≤ tx.length ∧ 0 < b ∧ ∃ jx, s.x.at' = hdl jx ∧ pg = .byte k false tx a b 0 jx a ⟨0, 0, 0⟩)
  | .rune k b => (cntP begB (u8s tx) < b ∧ pg = errP 3) ∨ (b = cntP begB (u8s tx) ∧ pg = .loc { RsV.zero with at' := (tx.length : Int) }) ∨ (b < cntP begB (u8s tx) ∧ ∃ jx, s.x.at' = hdl jx ∧ pg = .rune k tx b jx b ⟨0, 0, 0⟩)
  | .line k b => (cntP isLF (u8s tx) < b ∧ pg = errP 3) ∨ (b = 0 ∧ pg = .loc RsV.zero) ∨ (b ≤ cntP isLF (u8s tx) ∧ 0 < b ∧ ∃ jx, s.x.at' = hdl jx ∧ pg = .line k tx (b - 1) jx b ⟨0, 0, 0⟩)
  | .mark k i => ((∀ x ∈ s.ms, x.id ≠ i) ∧ pg = errP 7) ∨ ∃ x ∈ s.ms, x.id = i ∧ pg = .loc { RsV.zero with at' := x.at', g := x.g }
  | .seek k a => (tx.length < a ∧ pg = errP 3) ∨ (a ≤ tx.length ∧ pg = .seek k a)
  | .next k b => ∃ c : Nat, s.cu = (c : Int) ∧ ((min b (tx.length - c) = 0 ∧ pg = .take k true c) ∨ (0 < min b (tx.length - c) ∧ ∃ jx, s.x.at' = hdl jx ∧ pg = .byte k true tx c (min b (tx.length - c)) 0 jx c ⟨0, 0, 0⟩))
  | .rel k => pg = .rel k
def StartP (σ : RS) (ts : List (List UInt8)) (c : Cop) (pg : Pg) : Prop :=
  (c = .acq ∧ pg = .clos) ∨ (c ≠ .acq ∧ ((σ.sl[c.slot]? = some none ∧ pg = errP 16) ∨ ∃ s i tx, σ.sl[c.slot]? = some (some s) ∧ s.ix = ((i : Nat) : Int) ∧ ts[i]? = some tx ∧ RunP s tx pg c))
/-- The state that an operation's beginning leaves, plainly. -/
def BegP (σ : RS) (y : Ly) (n m : Nat) (ts : List (List UInt8)) (c : Cop) (σ' : RS) (bs' : List Bx) : Prop :=
  Same σ σ' ∧ σ'.s = σ.s ∧ σ'.sl = σ.sl ∧ σ'.ps = σ.ps ∧ σ'.r.op = c.op ∧ RnOk σ' y n m ts none ∧ ∃ pg, PgAt σ' bs' n m ts pg ∧ pg.hk = none ∧ pg.ended = false ∧ StartP σ ts c pg
def BegTo (B : Nat) (w0 : World) (R : List Res) (σ : RS) (y : Ly) (n m : Nat) (ts : List (List UInt8)) (c : Cop) (e : Ending) (w' : World) : Prop :=
  e = .returned (.int .i64 0) ∧ ∃ σ' bs', Mem B w0 (σ'.L B ++ (boxR bs' :: R)) w' ∧ BegP σ y n m ts c σ' bs'
def RS.beg (σ : RS) (op : OpV) : RS := { σ with r := { σ.r with op := op, busy := true, done := false } }
section
variable {B : Nat} {w0 w : World} {R : List Res} {σ σ' : RS} {bs' : List Bx} {y : Ly} {n m : Nat} {ts : List (List UInt8)}
/-- The reader changes; its text is new. -/
theorem m_rdz (M : Mem B w0 (σ.L B ++ R) w) {w' : World} {r' : Rd} {v : Value} {e : Ending} (h : RdSet σ.g r' w v e w') (hs : r'.sb = σ.r.sb) (ht : r'.tx = .slice none 0 0) : Mem B w0 (RS.L B { σ with r := r', tx := [] } ++ R) w' := by
  have t := M.upd (i := 0) (blkR σ.g 111 r'.cells) rfl h.2.2 (fun _ _ e => e) h.2.1 (fun _ e => .inl e)
  have u := t.upd (i := 8) (rowR B 5 1 0 (.slice none 0 0) []) rfl (Ch.refl (fun _ => False) w') (fun _ _ e => e.elim) (World.ownsRow_nil _ _ _ _) (fun k e => by cases e)
  have e : RS.L B { σ with r := r', tx := [] } ++ R = ((σ.L B ++ R).set 0 (blkR σ.g 111 r'.cells)).set 8 (rowR B 5 1 0 (.slice none 0 0) []) := by
    simp only [RS.L, hs, ht]; rfl
  rw [e]
  exact u
/-- The reader changes, and a step has blocks of its own. -/
theorem m_setbox (M : Mem B w0 (σ.L B ++ (boxR bs' :: R)) w) {w' : World} {r' : Rd} {v : Value} {e : Ending} (h : RdSet σ.g r' w v e w') (hs : r'.sb = σ.r.sb) (ht : r'.tx = σ.r.tx) (bs2 : List Bx) (hb : ∀ b ∈ bs2, Blk w' b.g b.t b.cs) (hn : ∀ b ∈ bs2, w.heap.size ≤ b.g) : Mem B w0 (RS.L B { σ with r := r' } ++ (boxR bs2 :: R)) w' := by
  have t := M.upd2 (i := 9) (j := 0) (boxR bs2) (blkR σ.g 111 r'.cells) rfl rfl (by decide) h.2.2 (fun _ _ e => .inr e) hb h.2.1 (fun k hk => by
    obtain ⟨b, hb', rfl⟩ := hk
    exact .inr (hn b hb')) (fun _ e => e)
  have e : RS.L B { σ with r := r' } ++ (boxR bs2 :: R) = ((σ.L B ++ (boxR bs' :: R)).set 9 (boxR bs2)).set 0 (blkR σ.g 111 r'.cells) := by
    simp only [RS.L, hs, ht]; rfl
  rw [e]
  exact t
theorem begin_of (M : Mem B w0 (σ.L B ++ (boxR bs' :: R)) w) (K : RnOk σ y n m ts none) (hb : σ.r.busy = false) (c : Cop)
    (hst : ∀ W, Mem B w0 (RS.L B (σ.beg c.op) ++ (boxR bs' :: R)) W → RnOk (σ.beg c.op) y n m ts none → Calls Tryz.prog 38 #[.pointer (some ⟨σ.g, 0, none⟩)] W fun e w' => e = .returned (.tuple #[]) ∧ ∃ σ' bs', Mem B w0 (σ'.L B ++ (boxR bs' :: R)) w' ∧ BegP σ y n m ts c σ' bs') :
    Calls Tryz.prog 13 #[.pointer (some ⟨σ.g, 0, none⟩), c.op.v] w (BegTo B w0 R σ y n m ts c) := by
  refine (rbegin_any σ.g σ.r c.op w (m_rd M) hb (by cases c <;> simp [Cop.op, acqOp]) (by cases c <;> simp [Cop.op, acqOp]) (fun W w' => ∃ σ' bs', Mem B w0 (σ'.L B ++ (boxR bs' :: R)) w' ∧ BegP σ y n m ts c σ' bs') fun W hW cW => ?_).mono ?_
  · have M1 : Mem B w0 (RS.L B (σ.beg c.op) ++ (boxR bs' :: R)) W := m_set M (v := .tuple #[]) (e := .returned (.tuple #[])) ⟨rfl, hW, cW⟩ rfl rfl
    exact hst W M1 (K.same ⟨rfl, rfl, rfl, rfl, rfl, rfl, rfl, rfl, rfl, rfl, rfl, rfl, rfl, rfl, rfl, rfl⟩ (K.O.rd _ σ.tx rfl rfl) rfl rfl rfl)
  · rintro e w' ⟨rfl, W, _, h⟩
    exact ⟨rfl, h⟩
/-- An operation that ends with an error. -/
theorem begin_err (M : Mem B w0 (σ.L B ++ (boxR bs' :: R)) w) (K : RnOk σ y n m ts none) (hb : σ.r.busy = false) (c : Cop) (er : Int) (he : er ≠ 0) (hs : StartP σ ts c (errP er))
    (hck : ∀ W, Mem B w0 (RS.L B (σ.beg c.op) ++ (boxR bs' :: R)) W → Calls Tryz.prog 61 #[.pointer (some ⟨σ.g, 0, none⟩), c.op.v] W fun e w' => e = .returned (.int .i64 er) ∧ Ch (fun _ => False) W w') :
    Calls Tryz.prog 13 #[.pointer (some ⟨σ.g, 0, none⟩), c.op.v] w (BegTo B w0 R σ y n m ts c) := by
  refine begin_of M K hb c fun W M1 K1 => ?_
  refine (start_bad σ.g (σ.beg c.op).r er W (m_rd M1) he fun W' cW => hck W' (M1.keep cW)).mono ?_
  rintro e w' ⟨rb, xb, hset, b1, b2, h1, h2⟩
  have M2 := m_setbox M1 hset rfl rfl [⟨rb, 45, #[.pointer (some ⟨σ.g, 0, none⟩)]⟩, ⟨xb, 41, RsV.arr { RsV.zero with er := er }⟩] (fun b hb => by
    simp at hb
    rcases hb with rfl | rfl
    · exact b1
    · exact b2) (fun b hb => by
    simp at hb
    rcases hb with rfl | rfl
    · exact h1
    · exact Nat.le_trans h1 (Nat.le_of_lt h2))
  obtain ⟨rfl, _, _⟩ := hset
  exact ⟨rfl, _, _, M2, ⟨rfl, rfl, rfl, rfl, rfl, rfl, rfl, rfl, rfl, rfl, rfl, rfl, rfl, rfl, rfl, rfl⟩, rfl, rfl, rfl, rfl, K1.same ⟨rfl, rfl, rfl, rfl, rfl, rfl, rfl, rfl, rfl, rfl, rfl, rfl, rfl, rfl, rfl, rfl⟩ (K1.O.rd _ σ.tx rfl rfl) rfl rfl rfl, errP er, ⟨rfl, rfl, rfl, rb, xb, rfl, rfl⟩, rfl, rfl, hs⟩
/-- The slot of an operation. -/
theorem slot_case (K : RnOk σ y n m ts none) {k : Nat} (hk : k < n) : σ.sl[k]? = some none ∨ ∃ s i tx, σ.sl[k]? = some (some s) ∧ s.ix = ((i : Nat) : Int) ∧ ts[i]? = some tx ∧ RevOk σ.ns s.x tx ∧ 0 ≤ s.cu ∧ s.cu ≤ s.x.b ∧ tx.length ≤ 100000 ∧ s.ms.length ≤ 4 := by
  rcases K.pn k hk (fun e => by cases e) with ⟨h, _⟩ | ⟨s, _, _, h, _⟩
  · exact .inl h
  · obtain ⟨i, r, hr, e1, e2, e3, e4, e5⟩ := K.sn k s h
    have hil : i < ts.length := by rw [K.nt]; exact (List.getElem?_eq_some_iff.1 hr).1
    obtain ⟨tx, htx⟩ : ∃ tx, ts[i]? = some tx := ⟨_, List.getElem?_eq_getElem hil⟩
    obtain ⟨h1, _, h3, _⟩ := K.rv i r tx hr htx
    exact .inr ⟨s, i, tx, h, e3, htx, by rw [e1]; exact h1, e4, e5, K.tl tx (List.mem_of_getElem? htx), by rw [e2]; exact h3⟩
theorem sptr_at {l : List (Option Snp)} {k : Nat} {o : Option Snp} (h : l[k]? = some o) : (l.map sptr)[k]? = some (o.map Snp.g) := by
  rw [List.getElem?_map, h]
  rfl
/-- Each operation on a free slot. -/
theorem begin_free (M : Mem B w0 (σ.L B ++ (boxR bs' :: R)) w) (K : RnOk σ y n m ts none) (hb : σ.r.busy = false) (c : Cop) (hc : c ≠ .acq) (hk : c.slot < n) (hsl : c.op.sl = (c.slot : Int)) (h5 : c.op.k ≠ 5) (hs : σ.sl[c.slot]? = some none)
    (hF : Formed σ.g (σ.beg c.op).r c.op) : Calls Tryz.prog 13 #[.pointer (some ⟨σ.g, 0, none⟩), c.op.v] w (BegTo B w0 R σ y n m ts c) := by
  refine begin_err M K hb c 16 (by decide) (.inr ⟨hc, .inl ⟨hs, rfl⟩⟩) fun W M1 => ?_
  exact check_free σ.g σ.lb n c.slot (σ.beg c.op).r c.op _ W (m_rd M1) K.O.sl (m_sl M1).b hsl hk (sptr_at hs) hF h5
theorem beg_acq (M : Mem B w0 (σ.L B ++ (boxR bs' :: R)) w) (K : RnOk σ y n m ts none) (hb : σ.r.busy = false) :
    Calls Tryz.prog 13 #[.pointer (some ⟨σ.g, 0, none⟩), Cop.acq.op.v] w (BegTo B w0 R σ y n m ts .acq) := by
  refine begin_of M K hb .acq fun W M1 K1 => ?_
  refine (start_acq σ.g (σ.beg acqOp).r W (m_rd M1) rfl).mono ?_
  intro e w' hset
  have M2 := m_set M1 hset rfl rfl
  obtain ⟨rfl, _, _⟩ := hset
  exact ⟨rfl, _, _, M2, ⟨rfl, rfl, rfl, rfl, rfl, rfl, rfl, rfl, rfl, rfl, rfl, rfl, rfl, rfl, rfl, rfl⟩, rfl, rfl, rfl, rfl, K1.same ⟨rfl, rfl, rfl, rfl, rfl, rfl, rfl, rfl, rfl, rfl, rfl, rfl, rfl, rfl, rfl, rfl⟩ (K1.O.rd _ σ.tx rfl rfl) rfl rfl rfl, .clos, ⟨rfl, rfl, rfl, rfl, rfl⟩, rfl, rfl, .inl ⟨rfl, rfl⟩⟩
end
end Go.Proofs.YtjcdknhejcbpiaaGreat
namespace Go.Proofs.YtjcdknhejcbpiaaGreat
open Go.RowKit
set_option linter.unusedVariables false
set_option linter.unusedSimpArgs false
set_option linter.unusedSectionVars false
theorem nxt_len {σ σ' : RS} {m : Nat} {hv : Int} {pg pg' : Pg} (h : Nxt σ σ' m hv pg' pg) : σ'.s.lg.length ≤ σ.s.lg.length + 1 := by
  cases pg with
  | fin x => exact h.elim
  | loc x => obtain ⟨_, h, _⟩ := h; rw [h]; omega
  | clos => obtain ⟨_, h, _⟩ := h; rw [h, load_len]; omega
  | ep k => obtain ⟨_, h, _⟩ := h; rw [h, load_len]; omega
  | ann k v => obtain ⟨_, h, _⟩ := h; rw [h, store_len]; omega
  | root k => obtain ⟨_, h, _⟩ := h; rw [h, load_len]; omega
  | rel k => obtain ⟨_, h, _⟩ := h; rw [h, store_len]; omega
  | seek k pos => obtain ⟨_, h, _⟩ := h; rw [h]; omega
  | take k a pos => obtain ⟨_, h, _⟩ := h; rw [h]; omega
  | byte k a tx p0 N d ix rest base => obtain ⟨_, h, _⟩ := h; rw [h]; omega
  | rune k tx q ix rest base => obtain ⟨_, h, _⟩ := h; rw [h]; omega
  | line k tx q ix rest base => obtain ⟨_, h, _⟩ := h; rw [h]; omega
/-- The bank after 1, 2, 3, 4 steps of an acquisition. -/
def acq1 (σ : RS) : BS := σ.s.load σ.r.cl 0
def acq2 (σ : RS) : BS := (acq1 σ).load σ.r.cl σ.f.ep
def acq3 (σ : RS) (m k : Nat) : BS := (acq2 σ).store σ.r.cl (σ.f.slot (m + k) : Nat) (lk σ.s.vs σ.f.ep + 1)
def acq4 (σ : RS) (m k : Nat) : BS := (acq3 σ m k).load σ.r.cl 1
inductive AcqK (σ0 : RS) (m : Nat) (σ : RS) : Nat → Pg → Prop
  | a4 (h1 : σ.s = σ0.s) (h2 : σ.sl = σ0.sl) : AcqK σ0 m σ 4 .clos
  | a3 (k : Nat) (h0 : free1 (σ0.sl.map sptr) 0 = (k : Int)) (h1 : σ.s = acq1 σ0) (h2 : σ.sl = σ0.sl) : AcqK σ0 m σ 3 (.ep k)
  | a2 (k : Nat) (h0 : free1 (σ0.sl.map sptr) 0 = (k : Int)) (h1 : σ.s = acq2 σ0) (h2 : σ.sl = σ0.sl) : AcqK σ0 m σ 2 (.ann k (lk σ0.s.vs σ0.f.ep))
  | a1 (k : Nat) (h0 : free1 (σ0.sl.map sptr) 0 = (k : Int)) (h1 : σ.s = acq3 σ0 m k) (h2 : σ.sl = σ0.sl) : AcqK σ0 m σ 1 (.root k)
/-- How an acquisition ends. -/
def AcqEnd (σ0 : RS) (m : Nat) (σ : RS) (x : RsV) : Prop :=
  (x.er ≠ 0 ∧ σ.sl = σ0.sl ∧ σ.s = acq1 σ0 ∧ ((lk σ0.s.vs 0 ≠ 0 ∧ x = { RsV.zero with er := 13 }) ∨ (lk σ0.s.vs 0 = 0 ∧ free1 (σ0.sl.map sptr) 0 < 0 ∧ x = { RsV.zero with er := 15 }))) ∨
  (lk σ0.s.vs 0 = 0 ∧ ∃ (k : Nat) (s : Snp) (i : Nat) (r : RvS), free1 (σ0.sl.map sptr) 0 = (k : Int) ∧ lk σ0.s.vs 1 = (i : Int) ∧ σ0.rs[i]? = some r ∧ s.x = r.x ∧ s.ms = r.ms ∧ s.ix = (i : Int) ∧ s.cu = 0 ∧ x = { RsV.zero with sl := (k : Int), rev := r.x.num } ∧ σ.sl = σ0.sl.set k (some s) ∧ σ.s = acq4 σ0 m k)
section
variable {σ0 σ σ' : RS} {y : Ly} {n m : Nat} {ts : List (List UInt8)} {pg pg' : Pg} {f : Nat} {hv : Int}
theorem acqK_step (h : AcqK σ0 m σ f pg) (S : Same σ0 σ) (hz : f < 4 → lk σ0.s.vs 0 = 0) (K : RnOk σ0 y n m ts none) (K1 : RnOk σ y n m ts pg.hk) (hn : Nxt σ σ' m hv pg' pg) :
    (∃ x, pg' = .fin x ∧ AcqEnd σ0 m σ' x) ∨ (pg'.ended = false ∧ ∃ f', f' + 1 = f ∧ lk σ0.s.vs 0 = 0 ∧ AcqK σ0 m σ' f' pg') := by
  cases h with
  | a4 h1 h2 =>
    obtain ⟨_, e1, e2, h⟩ := hn
    rw [h1, S.cl] at e1
    rw [h2] at e2 h
    rw [h1] at h
    rcases h with ⟨h, rfl⟩ | ⟨h, h', rfl⟩ | ⟨h, k, h', rfl⟩
    · exact .inl ⟨_, rfl, .inl ⟨by decide, e2, e1, .inl ⟨h, rfl⟩⟩⟩
    · exact .inl ⟨_, rfl, .inl ⟨by decide, e2, e1, .inr ⟨h, h', rfl⟩⟩⟩
    · exact .inr ⟨rfl, 3, rfl, h, .a3 k h' e1 e2⟩
  | a3 k h0 h1 h2 =>
    obtain ⟨_, e1, e2, rfl⟩ := hn
    rw [h1, S.cl, S.f] at e1
    rw [h2] at e2
    refine .inr ⟨rfl, 2, rfl, hz (by omega), ?_⟩
    rw [h1, S.f]
    exact .a2 k h0 e1 e2
  | a2 k h0 h1 h2 =>
    obtain ⟨_, e1, e2, rfl⟩ := hn
    rw [h1, S.cl, S.f] at e1
    rw [h2] at e2
    exact .inr ⟨rfl, 1, rfl, hz (by omega), .a1 k h0 e1 e2⟩
  | a1 k h0 h1 h2 =>
    obtain ⟨_, e1, i, r, s, hi, hr, a1, a2, a3, a4, e2, rfl⟩ := hn
    rw [h1, S.cl] at e1
    rw [h2] at e2
    rw [S.rs] at hr
    have hkn : k < n := by
      rcases free1_spec (σ0.sl.map sptr) 0 with h | ⟨i, h, hi⟩
      · omega
      · have hl := (List.getElem?_eq_some_iff.1 hi).1
        rw [List.length_map, K.O.nl] at hl
        omega
    have hmk : m + k < σ0.f.n := by have := K.O.mn; omega
    have hfs := K.O.fs (m + k) hmk
    have hi' : lk σ0.s.vs 1 = (i : Int) := by
      rw [h1] at hi
      have e : (acq3 σ0 m k).vs = σ0.s.vs.set (σ0.f.slot (m + k)) (lk σ0.s.vs σ0.f.ep + 1) := rfl
      rw [e, lk_set_ne _ (by omega)] at hi
      exact hi
    exact .inl ⟨_, rfl, .inr ⟨hz (by omega), k, s, i, r, h0, hi', hr, a1, a2, a3, a4, rfl, e2, e1⟩⟩
def RelEnd (σ0 : RS) (m k : Nat) (σ : RS) (x : RsV) : Prop :=
  (σ0.sl[k]? = some none ∧ σ.s = σ0.s ∧ σ.sl = σ0.sl ∧ x = { RsV.zero with er := 16 }) ∨ (∃ s, σ0.sl[k]? = some (some s) ∧ σ.s = σ0.s.store σ0.r.cl (σ0.f.slot (m + k) : Nat) 0 ∧ σ.sl = σ0.sl.set k none ∧ x = RsV.zero)
end
end Go.Proofs.YtjcdknhejcbpiaaGreat
