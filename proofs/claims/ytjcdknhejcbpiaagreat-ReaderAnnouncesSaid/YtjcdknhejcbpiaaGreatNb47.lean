/- Lemmas that the proof of the last text leans on; no condition. -/
import Derived.Test.YtjcdknhejcbpiaaGreatNb42
import Derived.Test.YtjcdknhejcbpiaaGreatNb43
namespace Go.Proofs.YtjcdknhejcbpiaaGreat
open Go.RowKit
set_option linter.unusedVariables false
set_option linter.unusedSimpArgs false
set_option linter.unusedSectionVars false
def errP (e : Int) : Pg := .loc { RsV.zero with er := e }
def RunP (s : Snp) (tx : List UInt8) (pg : Pg) : Cop → Prop
  | .acq => False
  | .len k => pg = .loc { RsV.zero with b := (mL tx).b, r := (mL tx).r, l := (mL tx).l }
  | .read k a b => (tx.length < a + b ∧ pg = errP 3) ∨ (a + b ≤ tx.length ∧ b = 0 ∧ pg = .take k false a) ∨ (a + b ≤ tx.length ∧ 0 < b ∧ ∃ jx, s.x.at' = hdl jx ∧ pg = .byte k false tx a b 0 jx a ⟨0, 0, 0⟩)
  | .rune k b => (cntP begB (u8s tx) < b ∧ pg = errP 3) ∨ (b = cntP begB (u8s tx) ∧ pg = .loc { RsV.zero with at' := (tx.length : Int) }) ∨ (b < cntP begB (u8s tx) ∧ ∃ jx, s.x.at' = hdl jx ∧ pg = .rune k tx b jx b ⟨0, 0, 0⟩)
  | .line k b => (cntP isLF (u8s tx) < b ∧ pg = errP 3) ∨ (b = 0 ∧ pg = .loc RsV.zero) ∨ (b ≤ cntP isLF (u8s tx) ∧ 0 < b ∧ ∃ jx, s.x.at' = hdl jx ∧ pg = .line k tx (b - 1) jx b ⟨0, 0, 0⟩)
  | .mark k i => ((∀ x ∈ s.ms, x.id ≠ i) ∧ pg = errP 7) ∨ ∃ x ∈ s.ms, x.id = i ∧ pg = .loc { RsV.zero with at' := x.at', g := x.g }
  | .seek k a => (tx.length < a ∧ pg = errP 3) ∨ (a ≤ tx.length ∧ pg = .seek k a)
  | .next k b => ∃ c : Nat, s.cu = (c : Int) ∧ ((min b (tx.length - c) = 0 ∧ pg = .take k true c) ∨ (0 < min b (tx.length - c) ∧ ∃ jx, s.x.at' = hdl jx ∧ pg = .byte k true tx c (min b (tx.length - c)) 0 jx c ⟨0, 0, 0⟩))
  | .rel k => pg = .rel k
def StartP (σ : RS) (ts : List (List UInt8)) (c : Cop) (pg : Pg) : Prop :=
  (c = .acq ∧ pg = .clos) ∨ (c ≠ .acq ∧ ((σ.sl[c.slot]? = some none ∧ pg = errP 16) ∨ ∃ s i tx, σ.sl[c.slot]? = some (some s) ∧ s.ix = ((i : Nat) : Int) ∧ ts[i]? = some tx ∧ RunP s tx pg c))
def BegP (σ : RS) (y : Ly) (n m : Nat) (ts : List (List UInt8)) (c : Cop) (σ' : RS) (bs' : List Bx) : Prop :=
  Same σ σ' ∧ σ'.s = σ.s ∧ σ'.sl = σ.sl ∧ σ'.ps = σ.ps ∧ σ'.r.op = c.op ∧ RnOk σ' y n m ts none ∧ ∃ pg, PgAt σ' bs' n m ts pg ∧ pg.hk = none ∧ pg.ended = false ∧ StartP σ ts c pg
def BegTo (B : Nat) (w0 : World) (R : List Res) (σ : RS) (y : Ly) (n m : Nat) (ts : List (List UInt8)) (c : Cop) (e : Ending) (w' : World) : Prop :=
  e = .returned (.int .i64 0) ∧ ∃ σ' bs', Mem B w0 (σ'.L B ++ (boxR bs' :: R)) w' ∧ BegP σ y n m ts c σ' bs'
def RS.beg (σ : RS) (op : OpV) : RS := { σ with r := { σ.r with op := op, busy := true, done := false } }
section
variable {B : Nat} {w0 w : World} {R : List Res} {σ σ' : RS} {bs' : List Bx} {y : Ly} {n m : Nat} {ts : List (List UInt8)}
theorem m_setbox (M : Mem B w0 (σ.L B ++ (boxR bs' :: R)) w) {w' : World} {r' : Rd} {v : Value} {e : Ending} (h : RdSet σ.g r' w v e w') (hs : r'.sb = σ.r.sb) (ht : r'.tx = σ.r.tx) (bs2 : List Bx) (hb : ∀ b ∈ bs2, Blk w' b.g b.t b.cs) (hn : ∀ b ∈ bs2, w.heap.size ≤ b.g) : Mem B w0 (RS.L B { σ with r := r' } ++ (boxR bs2 :: R)) w' := by
  have t := M.upd2 (i := 9) (j := 0) (boxR bs2) (blkR σ.g 111 r'.cells) rfl rfl (by decide) h.2.2 (fun _ _ e => .inr e) hb h.2.1 (fun k hk => by
    obtain ⟨b, hb', rfl⟩ := hk
    exact .inr (hn b hb')) (fun _ e => e)
  have e : RS.L B { σ with r := r' } ++ (boxR bs2 :: R) = ((σ.L B ++ (boxR bs' :: R)).set 9 (boxR bs2)).set 0 (blkR σ.g 111 r'.cells) := by
    simp only [RS.L, hs, ht]; rfl
  rw [e]
  exact t
theorem begin_of (M : Mem B w0 (σ.L B ++ (boxR bs' :: R)) w) (K : RnOk σ y n m ts none) (hb : σ.r.busy = false) (c : Cop)
    (hst : ∀ W, Mem B w0 (RS.L B (σ.beg c.op) ++ (boxR bs' :: R)) W → RnOk (σ.beg c.op) y n m ts none → Calls Tryz.prog 38 #[.pointer (some ⟨σ.g, 0, none⟩)] W fun e w' => e = .returned (.tuple #[]) ∧ ∃ σ' bs', Mem B w0 (σ'.L B ++ (boxR bs' :: R)) w' ∧ BegP σ y n m ts c σ' bs') :
    Calls Tryz.prog 13 #[.pointer (some ⟨σ.g, 0, none⟩), c.op.v] w (BegTo B w0 R σ y n m ts c) := by
  refine (rbegin_any σ.g σ.r c.op w (m_rd M) hb (by cases c <;> simp [Cop.op, acqOp]) (by cases c <;> simp [Cop.op, acqOp]) (fun W w' => ∃ σ' bs', Mem B w0 (σ'.L B ++ (boxR bs' :: R)) w' ∧ BegP σ y n m ts c σ' bs') fun W hW cW => ?_).mono ?_
  · have M1 : Mem B w0 (RS.L B (σ.beg c.op) ++ (boxR bs' :: R)) W := m_set M (v := .tuple #[]) (e := .returned (.tuple #[])) ⟨rfl, hW, cW⟩ rfl rfl
    exact hst W M1 (K.same ⟨rfl, rfl, rfl, rfl, rfl, rfl, rfl, rfl, rfl, rfl, rfl, rfl, rfl, rfl, rfl, rfl⟩ (K.O.rd _ σ.tx rfl rfl) rfl rfl rfl)
  · rintro e w' ⟨rfl, W, _, h⟩
    exact ⟨rfl, h⟩
theorem begin_err (M : Mem B w0 (σ.L B ++ (boxR bs' :: R)) w) (K : RnOk σ y n m ts none) (hb : σ.r.busy = false) (c : Cop) (er : Int) (he : er ≠ 0) (hs : StartP σ ts c (errP er))
    (hck : ∀ W, Mem B w0 (RS.L B (σ.beg c.op) ++ (boxR bs' :: R)) W → Calls Tryz.prog 61 #[.pointer (some ⟨σ.g, 0, none⟩), c.op.v] W fun e w' => e = .returned (.int .i64 er) ∧ Ch (fun _ => False) W w') :
    Calls Tryz.prog 13 #[.pointer (some ⟨σ.g, 0, none⟩), c.op.v] w (BegTo B w0 R σ y n m ts c) := by
  refine begin_of M K hb c fun W M1 K1 => ?_
  refine (start_bad σ.g (σ.beg c.op).r er W (m_rd M1) he fun W' cW => hck W' (M1.keep cW)).mono ?_
  rintro e w' ⟨rb, xb, hset, b1, b2, h1, h2⟩
  have M2 := m_setbox M1 hset rfl rfl [⟨rb, 45, #[.pointer (some ⟨σ.g, 0, none⟩)]⟩, ⟨xb, 41, RsV.arr { RsV.zero with er := er }⟩] (fun b hb => by
    simp at hb
    rcases hb with rfl | rfl
    · exact b1
    · exact b2) (fun b hb => by
    simp at hb
    rcases hb with rfl | rfl
    · exact h1
    · exact Nat.le_trans h1 (Nat.le_of_lt h2))
  obtain ⟨rfl, _, _⟩ := hset
  exact ⟨rfl, _, _, M2, ⟨rfl, rfl, rfl, rfl, rfl, rfl, rfl, rfl, rfl, rfl, rfl, rfl, rfl, rfl, rfl, rfl⟩, rfl, rfl, rfl, rfl, K1.same ⟨rfl, rfl, rfl, rfl, rfl, rfl, rfl, rfl, rfl, rfl, rfl, rfl, rfl, rfl, rfl, rfl⟩ (K1.O.rd _ σ.tx rfl rfl) rfl rfl rfl, errP er, ⟨rfl, rfl, rfl, rb, xb, rfl, rfl⟩, rfl, rfl, hs⟩
theorem slot_case (K : RnOk σ y n m ts none) {k : Nat} (hk : k < n) : σ.sl[k]? = some none ∨ ∃ s i tx, σ.sl[k]? = some (some s) ∧ s.ix = ((i : Nat) : Int) ∧ ts[i]? = some tx ∧ RevOk σ.ns s.x tx ∧ 0 ≤ s.cu ∧ s.cu ≤ s.x.b ∧ tx.length ≤ 100000 ∧ s.ms.length ≤ 4 := by
  rcases K.pn k hk (fun e => by cases e) with ⟨h, _⟩ | ⟨s, _, _, h, _⟩
  · exact .inl h
  · obtain ⟨i, r, hr, e1, e2, e3, e4, e5⟩ := K.sn k s h
    have hil : i < ts.length := by rw [K.nt]; exact (List.getElem?_eq_some_iff.1 hr).1
    obtain ⟨tx, htx⟩ : ∃ tx, ts[i]? = some tx := ⟨_, List.getElem?_eq_getElem hil⟩
    obtain ⟨h1, _, h3, _⟩ := K.rv i r tx hr htx
    exact .inr ⟨s, i, tx, h, e3, htx, by rw [e1]; exact h1, e4, e5, K.tl tx (List.mem_of_getElem? htx), by rw [e2]; exact h3⟩
theorem sptr_at {l : List (Option Snp)} {k : Nat} {o : Option Snp} (h : l[k]? = some o) : (l.map sptr)[k]? = some (o.map Snp.g) := by
  rw [List.getElem?_map, h]
  rfl
theorem begin_free (M : Mem B w0 (σ.L B ++ (boxR bs' :: R)) w) (K : RnOk σ y n m ts none) (hb : σ.r.busy = false) (c : Cop) (hc : c ≠ .acq) (hk : c.slot < n) (hsl : c.op.sl = (c.slot : Int)) (h5 : c.op.k ≠ 5) (hs : σ.sl[c.slot]? = some none)
    (hF : Formed σ.g (σ.beg c.op).r c.op) : Calls Tryz.prog 13 #[.pointer (some ⟨σ.g, 0, none⟩), c.op.v] w (BegTo B w0 R σ y n m ts c) := by
  refine begin_err M K hb c 16 (by decide) (.inr ⟨hc, .inl ⟨hs, rfl⟩⟩) fun W M1 => ?_
  exact check_free σ.g σ.lb n c.slot (σ.beg c.op).r c.op _ W (m_rd M1) K.O.sl (m_sl M1).b hsl hk (sptr_at hs) hF h5
theorem beg_acq (M : Mem B w0 (σ.L B ++ (boxR bs' :: R)) w) (K : RnOk σ y n m ts none) (hb : σ.r.busy = false) :
    Calls Tryz.prog 13 #[.pointer (some ⟨σ.g, 0, none⟩), Cop.acq.op.v] w (BegTo B w0 R σ y n m ts .acq) := by
  refine begin_of M K hb .acq fun W M1 K1 => ?_
  refine (start_acq σ.g (σ.beg acqOp).r W (m_rd M1) rfl).mono ?_
  intro e w' hset
  have M2 := m_set M1 hset rfl rfl
  obtain ⟨rfl, _, _⟩ := hset
  exact ⟨rfl, _, _, M2, ⟨rfl, rfl, rfl, rfl, rfl, rfl, rfl, rfl, rfl, rfl, rfl, rfl, rfl, rfl, rfl, rfl⟩, rfl, rfl, rfl, rfl, K1.same ⟨rfl, rfl, rfl, rfl, rfl, rfl, rfl, rfl, rfl, rfl, rfl, rfl, rfl, rfl, rfl, rfl⟩ (K1.O.rd _ σ.tx rfl rfl) rfl rfl rfl, .clos, ⟨rfl, rfl, rfl, rfl, rfl⟩, rfl, rfl, .inl ⟨rfl, rfl⟩⟩
theorem beg_rel {k : Nat} (M : Mem B w0 (σ.L B ++ (boxR bs' :: R)) w) (K : RnOk σ y n m ts none) (hb : σ.r.busy = false) (hk : k < n) :
    Calls Tryz.prog 13 #[.pointer (some ⟨σ.g, 0, none⟩), (Cop.rel k).op.v] w (BegTo B w0 R σ y n m ts (.rel k)) := by
  rcases slot_case K hk with h | ⟨s, i, tx, h, h1, h2, h3, h4, h5, h6, h7⟩
  · exact begin_free M K hb (.rel k) (fun e => by cases e) hk rfl (by simp [Cop.op]) h (fm13 σ.g σ.lb n _ k K.O.sl (by omega) (by omega))
  · refine begin_of M K hb (.rel k) fun W M1 K1 => ?_
    refine (start_rel σ.g σ.lb n k s.g (σ.beg (Cop.rel k).op).r _ s.x s.mv s.dv s.ix s.cu W (m_rd M1) K.O.sl (m_sl M1).b rfl hk (sptr_at h) ((m_sl M1).s k s h).b).mono ?_
    intro e w' hset
    have M2 := m_set M1 hset rfl rfl
    obtain ⟨rfl, _, _⟩ := hset
    exact ⟨rfl, _, _, M2, ⟨rfl, rfl, rfl, rfl, rfl, rfl, rfl, rfl, rfl, rfl, rfl, rfl, rfl, rfl, rfl, rfl⟩, rfl, rfl, rfl, rfl, K1.same ⟨rfl, rfl, rfl, rfl, rfl, rfl, rfl, rfl, rfl, rfl, rfl, rfl, rfl, rfl, rfl, rfl⟩ (K1.O.rd _ σ.tx rfl rfl) rfl rfl rfl, .rel k, ⟨rfl, rfl, rfl, rfl, rfl, hk, s, h⟩, rfl, rfl, .inr ⟨nofun, .inr ⟨s, i, tx, h, h1, h2, rfl⟩⟩⟩
end
theorem nxt_len {σ σ' : RS} {m : Nat} {hv : Int} {pg pg' : Pg} (h : Nxt σ σ' m hv pg' pg) : σ'.s.lg.length ≤ σ.s.lg.length + 1 := by
  cases pg with
  | fin x => exact h.elim
  | loc x => obtain ⟨_, h, _⟩ := h; rw [h]; omega
  | clos => obtain ⟨_, h, _⟩ := h; rw [h, load_len]; omega
  | ep k => obtain ⟨_, h, _⟩ := h; rw [h, load_len]; omega
  | ann k v => obtain ⟨_, h, _⟩ := h; rw [h, store_len]; omega
  | root k => obtain ⟨_, h, _⟩ := h; rw [h, load_len]; omega
  | rel k => obtain ⟨_, h, _⟩ := h; rw [h, store_len]; omega
  | seek k pos => obtain ⟨_, h, _⟩ := h; rw [h]; omega
  | take k a pos => obtain ⟨_, h, _⟩ := h; rw [h]; omega
  | byte k a tx p0 N d ix rest base => obtain ⟨_, h, _⟩ := h; rw [h]; omega
  | rune k tx q ix rest base => obtain ⟨_, h, _⟩ := h; rw [h]; omega
  | line k tx q ix rest base => obtain ⟨_, h, _⟩ := h; rw [h]; omega
def acq1 (σ : RS) : BS := σ.s.load σ.r.cl 0
def acq2 (σ : RS) : BS := (acq1 σ).load σ.r.cl σ.f.ep
def acq3 (σ : RS) (m k : Nat) : BS := (acq2 σ).store σ.r.cl (σ.f.slot (m + k) : Nat) (lk σ.s.vs σ.f.ep + 1)
def acq4 (σ : RS) (m k : Nat) : BS := (acq3 σ m k).load σ.r.cl 1
inductive AcqK (σ0 : RS) (m : Nat) (σ : RS) : Nat → Pg → Prop
  | a4 (h1 : σ.s = σ0.s) (h2 : σ.sl = σ0.sl) : AcqK σ0 m σ 4 .clos
  | a3 (k : Nat) (h0 : free1 (σ0.sl.map sptr) 0 = (k : Int)) (h1 : σ.s = acq1 σ0) (h2 : σ.sl = σ0.sl) : AcqK σ0 m σ 3 (.ep k)
  | a2 (k : Nat) (h0 : free1 (σ0.sl.map sptr) 0 = (k : Int)) (h1 : σ.s = acq2 σ0) (h2 : σ.sl = σ0.sl) : AcqK σ0 m σ 2 (.ann k (lk σ0.s.vs σ0.f.ep))
  | a1 (k : Nat) (h0 : free1 (σ0.sl.map sptr) 0 = (k : Int)) (h1 : σ.s = acq3 σ0 m k) (h2 : σ.sl = σ0.sl) : AcqK σ0 m σ 1 (.root k)
def AcqEnd (σ0 : RS) (m : Nat) (σ : RS) (x : RsV) : Prop :=
  (x.er ≠ 0 ∧ σ.sl = σ0.sl ∧ σ.s = acq1 σ0 ∧ ((lk σ0.s.vs 0 ≠ 0 ∧ x = { RsV.zero with er := 13 }) ∨ (lk σ0.s.vs 0 = 0 ∧ free1 (σ0.sl.map sptr) 0 < 0 ∧ x = { RsV.zero with er := 15 }))) ∨
  (lk σ0.s.vs 0 = 0 ∧ ∃ (k : Nat) (s : Snp) (i : Nat) (r : RvS), free1 (σ0.sl.map sptr) 0 = (k : Int) ∧ lk σ0.s.vs 1 = (i : Int) ∧ σ0.rs[i]? = some r ∧ s.x = r.x ∧ s.ms = r.ms ∧ s.ix = (i : Int) ∧ s.cu = 0 ∧ x = { RsV.zero with sl := (k : Int), rev := r.x.num } ∧ σ.sl = σ0.sl.set k (some s) ∧ σ.s = acq4 σ0 m k)
section
variable {σ0 σ σ' : RS} {y : Ly} {n m : Nat} {ts : List (List UInt8)} {pg pg' : Pg} {f : Nat} {hv : Int}
theorem acqK_step (h : AcqK σ0 m σ f pg) (S : Same σ0 σ) (hz : f < 4 → lk σ0.s.vs 0 = 0) (K : RnOk σ0 y n m ts none) (K1 : RnOk σ y n m ts pg.hk) (hn : Nxt σ σ' m hv pg' pg) :
    (∃ x, pg' = .fin x ∧ AcqEnd σ0 m σ' x) ∨ (pg'.ended = false ∧ ∃ f', f' + 1 = f ∧ lk σ0.s.vs 0 = 0 ∧ AcqK σ0 m σ' f' pg') := by
  cases h with
  | a4 h1 h2 =>
    obtain ⟨_, e1, e2, h⟩ := hn
    rw [h1, S.cl] at e1
    rw [h2] at e2 h
    rw [h1] at h
    rcases h with ⟨h, rfl⟩ | ⟨h, h', rfl⟩ | ⟨h, k, h', rfl⟩
    · exact .inl ⟨_, rfl, .inl ⟨by decide, e2, e1, .inl ⟨h, rfl⟩⟩⟩
    · exact .inl ⟨_, rfl, .inl ⟨by decide, e2, e1, .inr ⟨h, h', rfl⟩⟩⟩
    · exact .inr ⟨rfl, 3, rfl, h, .a3 k h' e1 e2⟩
  | a3 k h0 h1 h2 =>
    obtain ⟨_, e1, e2, rfl⟩ := hn
    rw [h1, S.cl, S.f] at e1
    rw [h2] at e2
    refine .inr ⟨rfl, 2, rfl, hz (by omega), ?_⟩
    rw [h1, S.f]
    exact .a2 k h0 e1 e2
  | a2 k h0 h1 h2 =>
    obtain ⟨_, e1, e2, rfl⟩ := hn
    rw [h1, S.cl, S.f] at e1
    rw [h2] at e2
    exact .inr ⟨rfl, 1, rfl, hz (by omega), .a1 k h0 e1 e2⟩
  | a1 k h0 h1 h2 =>
    obtain ⟨_, e1, i, r, s, hi, hr, a1, a2, a3, a4, e2, rfl⟩ := hn
    rw [h1, S.cl] at e1
    rw [h2] at e2
    rw [S.rs] at hr
    have hkn : k < n := by
      rcases free1_spec (σ0.sl.map sptr) 0 with h | ⟨i, h, hi⟩
      · omega
      · have hl := (List.getElem?_eq_some_iff.1 hi).1
        rw [List.length_map, K.O.nl] at hl
        omega
    have hmk : m + k < σ0.f.n := by have := K.O.mn; omega
    have hfs := K.O.fs (m + k) hmk
    have hi' : lk σ0.s.vs 1 = (i : Int) := by
      rw [h1] at hi
      have e : (acq3 σ0 m k).vs = σ0.s.vs.set (σ0.f.slot (m + k)) (lk σ0.s.vs σ0.f.ep + 1) := rfl
      rw [e, lk_set_ne _ (by omega)] at hi
      exact hi
    exact .inl ⟨_, rfl, .inr ⟨hz (by omega), k, s, i, r, h0, hi', hr, a1, a2, a3, a4, rfl, e2, e1⟩⟩
inductive RelK (σ0 : RS) (k : Nat) (σ : RS) : Pg → Prop
  | free (h0 : σ0.sl[k]? = some none) (h1 : σ.s = σ0.s) (h2 : σ.sl = σ0.sl) : RelK σ0 k σ (errP 16)
  | held (s : Snp) (h0 : σ0.sl[k]? = some (some s)) (h1 : σ.s = σ0.s) (h2 : σ.sl = σ0.sl) : RelK σ0 k σ (.rel k)
def RelEnd (σ0 : RS) (m k : Nat) (σ : RS) (x : RsV) : Prop :=
  (σ0.sl[k]? = some none ∧ σ.s = σ0.s ∧ σ.sl = σ0.sl ∧ x = { RsV.zero with er := 16 }) ∨ (∃ s, σ0.sl[k]? = some (some s) ∧ σ.s = σ0.s.store σ0.r.cl (σ0.f.slot (m + k) : Nat) 0 ∧ σ.sl = σ0.sl.set k none ∧ x = RsV.zero)
theorem relK_step {k : Nat} (h : RelK σ0 k σ pg) (S : Same σ0 σ) (hn : Nxt σ σ' m hv pg' pg) : ∃ x, pg' = .fin x ∧ RelEnd σ0 m k σ' x := by
  cases h with
  | free h0 h1 h2 =>
    obtain ⟨_, e1, e2, rfl⟩ := hn
    exact ⟨_, rfl, .inl ⟨h0, e1.trans h1, e2.trans h2, rfl⟩⟩
  | held s h0 h1 h2 =>
    obtain ⟨_, e1, e2, rfl⟩ := hn
    exact ⟨_, rfl, .inr ⟨s, h0, by rw [e1, h1, S.cl, S.f], by rw [e2, h2], rfl⟩⟩
end
def phs8 (l : List Int) : List Value := l.map (.int .u8)
theorem phs8_snoc (l : List Int) (p : Int) : phs8 (l ++ [p]) = phs8 l ++ [.int .u8 p] := by simp [phs8]
theorem infoU8 : (Tryz.prog.info? 5).map (fun i => (i.zero, i.size, i.bytes)) = some (some (Value.int .u8 0), 1, 1) := by kernel_rfl
theorem rnext_q (g : Nat) (r : Rd) (w : World) (h : Blk w g 111 r.cells) (k : Nat) : Calls Tryz.prog 24 #[.pointer (some ⟨g, 0, none⟩)] (w.drewN k) fun e w'' => e = .returned (.int .u8 r.ph) ∧ ∃ m, w'' = w.drewN m :=
  Calls.quiet_of_same ((rnext_any g r (w.drewN k) (h.drewN k)).mono fun e w' ⟨he, hw⟩ => ⟨he, hw.symm⟩)
def FinTo (B : Nat) (w0 : World) (R : List Res) (σ : RS) (y : Ly) (n m : Nat) (ts : List (List UInt8)) (Kend : List Int → RS → RsV → Prop) (e : Ending) (w' : World) : Prop :=
  ∃ σ' bs' x v phs, e = .returned (.tuple #[v, x.v, .bool true]) ∧ Mem B w0 (σ'.L B ++ (boxR bs' :: (R ++ [rowR B 5 1 phs.length v (phs8 phs)]))) w' ∧ Same σ σ' ∧ RnOk σ' y n m ts none ∧ PgAt σ' bs' n m ts (.fin x) ∧ Kend phs σ' x ∧ σ'.s.lg.length ≤ σ.s.lg.length + 200
section
variable {B : Nat} {w0 w : World} {R : List Res} {σ σ' : RS} {bs' : List Bx} {y : Ly} {n m : Nat} {ts : List (List UInt8)}
def rzC : Array Value := #[.int .i64 0, .int .i64 0, .int .i64 0, .int .i64 0, .int .u8 0, .string ⟨#[]⟩, .int .i64 0, .int .i64 0, .int .i64 0, .int .u8 0, .int .i64 0, .int .i64 0, .slice none 0 0]
set_option maxRecDepth 100000 in
set_option maxHeartbeats 800000 in
theorem finish_gen (c : Cop) (Kst : Nat → List Int → RS → Pg → Prop) (Kend : List Int → RS → RsV → Prop) (M : Mem B w0 (σ.L B ++ (boxR bs' :: R)) w) (hl : σ.s.lg.length < 700000)
    (hbeg : ∀ R W, Mem B w0 (σ.L B ++ (boxR bs' :: R)) W → Calls Tryz.prog 13 #[.pointer (some ⟨σ.g, 0, none⟩), c.op.v] W (BegTo B w0 R σ y n m ts c))
    (h0 : ∀ σ1 bs1 pg, Same σ σ1 → σ1.s = σ.s → σ1.sl = σ.sl → RnOk σ1 y n m ts none → PgAt σ1 bs1 n m ts pg → StartP σ ts c pg → ∃ f, f ≤ 200 ∧ Kst f [] σ1 pg)
    (h1 : ∀ f phs σ1 σ2 hv pg pg', Kst f phs σ1 pg → (∃ b, PgAt σ1 b n m ts pg) → RnOk σ1 y n m ts pg.hk → RnOk σ2 y n m ts pg'.hk → Same σ σ1 → Same σ1 σ2 → Nxt σ1 σ2 m hv pg' pg → (∃ x, pg' = .fin x ∧ Kend (phs ++ [σ1.r.ph]) σ2 x) ∨ (pg'.ended = false ∧ ∃ f', f' + 1 ≤ f ∧ Kst f' (phs ++ [σ1.r.ph]) σ2 pg'))
    (hst : ∀ (R : List Res) (W : World) (f : Nat) (phs : List Int) (σ1 : RS) (bs1 : List Bx) (pg : Pg), Mem B w0 (σ1.L B ++ (boxR bs1 :: R)) W → RnOk σ1 y n m ts pg.hk → σ1.s.lg.length < 800000 → PgAt σ1 bs1 n m ts pg → pg.ended = false → Kst f phs σ1 pg → Calls Tryz.prog 15 #[.pointer (some ⟨σ1.g, 0, none⟩)] W (StepTo B w0 R σ1 bs1 y n m ts pg))
    (h2 : ∀ f phs σ1 pg, Kst f phs σ1 pg → 0 < f) :
    Calls Tryz.prog 12 #[.pointer (some ⟨σ.g, 0, none⟩), c.op.v] w (FinTo B w0 R σ y n m ts Kend) := by
  obtain ⟨i0, hi, hz0, hz1, hz2⟩ := info_parts infoU8
  have HM := hid M
  have HL := hid hl
  have HB := hid hbeg
  have H0 := hid h0
  have H1 := hid h1
  have H2 := hid h2
  have HS := hid hst
  clear M hl hbeg h0 h1 h2 hst
  simp only [OpV.v]
  go_enter Tryz.func12, Tryz.ntmps12
  go_wp2_with fail
  refine calls_world fun W1 hW1 => ?_
  obtain ⟨rb, hrb⟩ : ∃ z, z = w.heap.size + 1 := ⟨_, rfl⟩
  have M1 := hid (show Mem B w0 (σ.L B ++ (boxR bs' :: ((R ++ [blkR rb 41 rzC]) ++ [rowR B 5 1 0 (.slice none 0 0) []]))) W1 from by
    rw [hW1, hrb]
    have t1 := HM.out.alloc (.cells #[.int .u8 c.op.k, .int .i64 c.op.sl, .int .i64 c.op.at', .int .i64 c.op.n, .int .u32 c.op.id, .int .u8 c.op.g, .string c.op.s] 26)
    have e : (w.alloc (.cells #[.int .u8 c.op.k, .int .i64 c.op.sl, .int .i64 c.op.at', .int .i64 c.op.n, .int .u32 c.op.id, .int .u8 c.op.g, .string c.op.s] 26)).heap.size = w.heap.size + 1 := by simp
    have t2 := t1.snoc (blkR (w.heap.size + 1) 41 rzC) ((Ch.refl _ _).alloc (.cells rzC 41)) (by rw [← e]; exact Blk.new _ _ _) (fun k hk => by rw [show k = _ from hk, e]; exact Nat.le_refl _)
    have t3 := t2.snoc (rowR B 5 1 0 (.slice none 0 0) []) (Ch.refl _ _) (World.ownsRow_nil _ _ _ _) (fun k hk => by cases hk)
    exact t3)
  rw [← hrb]
  clear hW1 hrb
  refine (HB.out _ W1 M1.out).mono ?_
  rintro e w2 ⟨rfl, σ1, bs1, hM2, S1, hs1, hsl1, hps1, hop1, K1, pg, P1, hk1, he1, hst⟩
  obtain ⟨f, hf, hK⟩ := H0.out σ1 bs1 pg S1 hs1 hsl1 K1 P1 hst
  have M2 := hid hM2
  have G0 := hid (show ∃ (f : Nat) (phs : List Int) (σ1 : RS) (bs1 : List Bx) (pg : Pg), (0 : Nat) = phs.length ∧ Mem B w0 (σ1.L B ++ (boxR bs1 :: ((R ++ [blkR rb 41 rzC]) ++ [rowR B 5 1 phs.length (.slice none 0 0) (phs8 phs)]))) w2 ∧ Same σ σ1 ∧ RnOk σ1 y n m ts pg.hk ∧ PgAt σ1 bs1 n m ts pg ∧ pg.ended = false ∧ Kst f phs σ1 pg ∧ f + phs.length ≤ 200 ∧ σ1.s.lg.length ≤ σ.s.lg.length + phs.length from
    ⟨f, [], σ1, bs1, pg, rfl, M2.out, S1, by rw [hk1]; exact K1, P1, he1, hK, by simpa using hf, by rw [hs1]; simp⟩)
  clear hM2 S1 hs1 hsl1 hps1 hop1 K1 P1 hk1 he1 hst hf hK M2
  go_wp2_with fail
  go_loopw [7, 8] (fun o i W => ∃ (f : Nat) (phs : List Int) (σ1 : RS) (bs1 : List Bx) (pg : Pg), i = .int .i64 (phs.length : Int) ∧ Mem B w0 (σ1.L B ++ (boxR bs1 :: ((R ++ [blkR rb 41 rzC]) ++ [rowR B 5 1 phs.length o (phs8 phs)]))) W ∧ Same σ σ1 ∧ RnOk σ1 y n m ts pg.hk ∧ PgAt σ1 bs1 n m ts pg ∧ pg.ended = false ∧ Kst f phs σ1 pg ∧ f + phs.length ≤ 200 ∧ σ1.s.lg.length ≤ σ.s.lg.length + phs.length) (fun _ i _ => 200 - (intOf i).toNat)
  case atStart =>
    obtain ⟨f, phs, σ1, bs1, pg, h1, h2⟩ := G0.out
    exact ⟨f, phs, σ1, bs1, pg, by rw [← h1]; rfl, h2⟩
  case round =>
    obtain ⟨f, phs, σ1, bs1, pg, rfl, hM, S1, K1, P1, he, hK, hf, hlg⟩ := hrel
    have hf0 := H2.out f phs σ1 pg hK
    obtain ⟨k, hk⟩ : ∃ k : Nat, k = phs.length := ⟨_, rfl⟩
    have hk2 : k < 200 := by omega
    have x1 : decide (k < 200) = true := decide_eq_true hk2
    have x2 : decide ((k : Int) < 200) = true := decide_eq_true (by omega)
    have hll : σ1.s.lg.length < 800000 := by have := HL.out; omega
    rw [← hk]
    have M3 := hid hM
    have SS1 := hid S1
    have KK1 := hid K1
    have KS := hid hK
    have HF := hid hf
    have HG := hid hlg
    have HK := hid hk
    have PP1 := hid P1
    have HE := hid he
    have HLL := hid hll
    have hgs : σ.g = σ1.g := S1.g.symm
    rw [hgs]
    clear hM S1 K1 hK hf hlg hk P1 he hll hgs hf0
    go_wp2_with fail
    refine (HS.out _ _ _ _ _ _ _ M3.out KK1.out HLL.out PP1.out HE.out KS.out).mono ?_
    rintro e w3 ⟨hv, σ2, pg2, rfl, hM4, S2, K2, P2, N2⟩
    have hnl := nxt_len N2
    have M4 := hid hM4
    have SS2 := hid S2
    have KK2 := hid K2
    have PP2 := hid P2
    have HNL := hid hnl
    have hst := H1.out f phs σ1 σ2 hv pg pg2 KS.out ⟨_, PP1.out⟩ KK1.out K2 SS1.out S2 N2
    have hph : σ1.r.ph = σ1.r.ph := rfl
    clear hM4 S2 K2 P2 N2 hnl hph
    simp only [stepV]
    have hrow := M4.out.lastBc
    obtain ⟨A0, cap0, hv0, _⟩ := own_slice hrow
    subst hv0
    have hrow2 := hid hrow
    clear hrow
    obtain ⟨ed, hed⟩ : ∃ b, b = pg2.ended := ⟨_, rfl⟩
    rw [← hed]
    have HED := hid hed
    have HST := hid hst
    have hlow : ∀ k, (Value.slice A0 phs.length cap0).ownBlock = some k → k < w3.heap.size := fun k hk => (hrow2.out.lt k hk).2
    have HLOW := hid hlow
    clear hed hst hlow
    go_wp2_with (at_builtin; refine wpList_app _ rfl (.tmp 29) (.tmp 32) 27 rfl B 5 i0 _ 1 1 Tryz.underlying27 hi hz0 hz1 hz2 rfl (by decide) _ _ _ rfl ((hrow2.out.alloc _).alloc _) ⟨w3.heap.size + 1, 0, none⟩ 1 1 [.int .u8 σ1.r.ph] rfl rfl ?c1 ?c2 (by decide) ?c3 ?c4 ?c5 ?c6)
    case c1 =>
      intro j u hu
      rw [addr_add0]
      have hb : Blk ((w3.alloc (.cells #[.int .i64 σ1.r.cl, .int .u8 σ1.r.ph, .bool (decide (σ1.s.lg.length < σ2.s.lg.length)), .int .u64 hv, .bool ed, .bool ed] 57)).alloc (.cells #[.int .u8 σ1.r.ph] 5)) (w3.heap.size + 1) 5 #[.int .u8 σ1.r.ph] := by
        have := Blk.new (w3.alloc (.cells #[.int .i64 σ1.r.cl, .int .u8 σ1.r.ph, .bool (decide (σ1.s.lg.length < σ2.s.lg.length)), .int .u64 hv, .bool ed, .bool ed] 57)) 5 #[.int .u8 σ1.r.ph]
        simpa using this
      exact (hb.cell j).trans (by simpa using hu)
    case c2 => intro u hu; simp at hu; rw [hu]; rfl
    case c3 => have := HK.out; unfold maxLen; omega
    case c4 => have := HK.out; omega
    case c5 => have := M4.out.bz; simp; omega
    case c6 =>
      intro v' w5 hown' hgrow hfresh
      have M5 := hid (((M4.out.alloc _).alloc _).appLastc hown' hgrow hfresh)
      rw [← phs8_snoc] at M5
      have Z5 := hid (Blk.grown ((Blk.new w3 57 #[.int .i64 σ1.r.cl, .int .u8 σ1.r.ph, .bool (decide (σ1.s.lg.length < σ2.s.lg.length)), .int .u64 hv, .bool ed, .bool ed]).alloc (.cells #[.int .u8 σ1.r.ph] 5)) hgrow (fun e => by have := HLOW.out _ e; omega))
      obtain ⟨A5, cap5, hv5, _⟩ := own_slice hown'
      subst hv5
      clear hown' hgrow hfresh
      have z1 : w5.cell? ⟨w3.heap.size, 1, none⟩ = some (.int .u8 σ1.r.ph) := Z5.out.cell 1
      have z4 : w5.cell? ⟨w3.heap.size, 4, none⟩ = some (.bool ed) := Z5.out.cell 4
      have z5 : w5.cell? ⟨w3.heap.size, 5, none⟩ = some (.bool ed) := Z5.out.cell 5
      have lz := Z5.out.lt
      rcases HST.out with ⟨x, hpx, hend⟩ | ⟨hne, f', hf', hK'⟩
      · obtain rfl : ed = true := by rw [HED.out, hpx]; rfl
        subst hpx
        have HEND := hid hend
        clear hend
        go_wp2_with fail
        obtain ⟨S, hS⟩ : ∃ S : Nat → Prop, ∀ k, S k ↔ k = w3.heap.size := ⟨_, fun _ => Iff.rfl⟩
        have hSp : Mix.Has S w3.heap.size := (hS _).2 rfl
        have HSS := hid hS
        clear hS
        obtain ⟨hpb, hpp, hpr⟩ := PP2.out
        have HPP := hid hpp
        have HPR := hid hpr
        have hg2 : σ2.g = σ1.g := SS2.out.g
        have HG2 := hid hg2
        have RD5 := hid (show Blk w5 σ1.g 111 σ2.r.cells from by rw [← hg2]; exact m_rd M5.out)
        clear hpb hpp hpr hg2 z1 z4
        have z4 : w5.cell? ⟨w3.heap.size, 4, none⟩ = some (.bool true) := Z5.out.cell 4
        clear z5
        refine Mix.wp_region_mix S (fun i => ([1, 0, 3, 1, 4, 0, 0, 0, 1, 1, 0, 2, 0] : List Nat).getD i 0) [0, 1, 3, 4, 2, 5, 6, 7, 8, 9, 10, 11, 12] (by kernel_rfl) (by kernel_rfl) ?_
        repeat (first | (refine Mix.mix_q (by simp only [List.getElem?_toArray, List.getElem?_cons_zero, List.getElem?_cons_succ]; exact rfl) rfl ?_; go_big_quiet_step (fail); refine wpQuiet_nil ?_) | (refine Mix.mix_p (by simp only [List.getElem?_toArray, List.getElem?_cons_zero, List.getElem?_cons_succ]; exact rfl) rfl rfl ?_; go_big_quiet_step (fail); refine wpQuiet_nil ?_) | (refine Mix.mix_s (by simp only [List.getElem?_toArray, List.getElem?_cons_zero, List.getElem?_cons_succ]; exact rfl) rfl rfl ?_; go_big_quiet_step (fail); refine wpQuiet_nil ?_))
        refine Mix.mix_a (by simp only [List.getElem?_toArray, List.getElem?_cons_zero, List.getElem?_cons_succ]; exact rfl) rfl fun V1 hV1 => ?_
        obtain ⟨k1, rfl⟩ := hV1
        go_wp2_with fail
        refine (rresult_any σ1.g σ2.r (w5.drewN k1) (RD5.out.drewN k1)).mono ?_
        rintro e w6 ⟨rfl, hc⟩
        rw [HPR.out]
        have M6 := hid ((M5.out.drewN k1).keep hc)
        have RD6 := hid (hc.blk (RD5.out.drewN k1) id)
        have HC6 := hid hc
        simp only [RsV.v]
        clear hc
        go_wp2_with fail
        refine ⟨fun k hk => HC6.out.block k (by rw [(HSS.out k).1 hk]; exact lz) id, ?_⟩
        clear z4
        have BR := hid (show Blk w6 rb 41 rzC from M6.out.last2c)
        have r0 : w6.cell? ⟨rb, 0, none⟩ = some (.int .i64 0) := BR.out.cell 0
        have rf0 := BR.out.free 0
        have r1 : w6.cell? ⟨rb, 1, none⟩ = some (.int .i64 0) := BR.out.cell 1
        have rf1 := BR.out.free 1
        have r2 : w6.cell? ⟨rb, 2, none⟩ = some (.int .i64 0) := BR.out.cell 2
        have rf2 := BR.out.free 2
        have r3 : w6.cell? ⟨rb, 3, none⟩ = some (.int .i64 0) := BR.out.cell 3
        have rf3 := BR.out.free 3
        have r4 : w6.cell? ⟨rb, 4, none⟩ = some (.int .u8 0) := BR.out.cell 4
        have rf4 := BR.out.free 4
        have r5 : w6.cell? ⟨rb, 5, none⟩ = some (.string ⟨#[]⟩) := BR.out.cell 5
        have rf5 := BR.out.free 5
        have r6 : w6.cell? ⟨rb, 6, none⟩ = some (.int .i64 0) := BR.out.cell 6
        have rf6 := BR.out.free 6
        have r7 : w6.cell? ⟨rb, 7, none⟩ = some (.int .i64 0) := BR.out.cell 7
        have rf7 := BR.out.free 7
        have r8 : w6.cell? ⟨rb, 8, none⟩ = some (.int .i64 0) := BR.out.cell 8
        have rf8 := BR.out.free 8
        have r9 : w6.cell? ⟨rb, 9, none⟩ = some (.int .u8 0) := BR.out.cell 9
        have rf9 := BR.out.free 9
        have r10 : w6.cell? ⟨rb, 10, none⟩ = some (.int .i64 0) := BR.out.cell 10
        have rf10 := BR.out.free 10
        have r11 : w6.cell? ⟨rb, 11, none⟩ = some (.int .i64 0) := BR.out.cell 11
        have rf11 := BR.out.free 11
        have r12 : w6.cell? ⟨rb, 12, none⟩ = some (.slice none 0 0) := BR.out.cell 12
        have rf12 := BR.out.free 12
        repeat (first | (refine Mix.mix_q (by simp only [List.getElem?_toArray, List.getElem?_cons_zero, List.getElem?_cons_succ]; exact rfl) rfl ?_; go_big_quiet_step (fail); refine wpQuiet_nil ?_) | (refine Mix.mix_p (by simp only [List.getElem?_toArray, List.getElem?_cons_zero, List.getElem?_cons_succ]; exact rfl) rfl rfl ?_; go_big_quiet_step (fail); refine wpQuiet_nil ?_) | (refine Mix.mix_s (by simp only [List.getElem?_toArray, List.getElem?_cons_zero, List.getElem?_cons_succ]; exact rfl) rfl rfl ?_; go_big_quiet_step (fail); refine wpQuiet_nil ?_))
        (refine Mix.mix_q (by simp only [List.getElem?_toArray, List.getElem?_cons_zero, List.getElem?_cons_succ]; exact rfl) rfl ?_; go_big_quiet_step ((go_at_call 24; exact (by have t := rnext_q σ1.g σ2.r w6 RD6.out; rw [HPP.out] at t; exact t _))); refine wpQuiet_nil ?_)
        repeat (first | (refine Mix.mix_q (by simp only [List.getElem?_toArray, List.getElem?_cons_zero, List.getElem?_cons_succ]; exact rfl) rfl ?_; go_big_quiet_step (fail); refine wpQuiet_nil ?_) | (refine Mix.mix_p (by simp only [List.getElem?_toArray, List.getElem?_cons_zero, List.getElem?_cons_succ]; exact rfl) rfl rfl ?_; go_big_quiet_step (fail); refine wpQuiet_nil ?_) | (refine Mix.mix_s (by simp only [List.getElem?_toArray, List.getElem?_cons_zero, List.getElem?_cons_succ]; exact rfl) rfl rfl ?_; go_big_quiet_step (fail); refine wpQuiet_nil ?_))
        refine Mix.mix_e (by simp only [List.getElem?_toArray, List.getElem?_cons_zero, List.getElem?_cons_succ]; exact rfl) rfl fun V2 hV2 => ?_
        obtain ⟨k2, rfl⟩ := hV2
        go_wp2_with fail
        repeat (first | (refine Mix.mix_q (by simp only [List.getElem?_toArray, List.getElem?_cons_zero, List.getElem?_cons_succ]; exact rfl) rfl ?_; go_big_quiet_step (fail); refine wpQuiet_nil ?_) | (refine Mix.mix_p (by simp only [List.getElem?_toArray, List.getElem?_cons_zero, List.getElem?_cons_succ]; exact rfl) rfl rfl ?_; go_big_quiet_step (fail); refine wpQuiet_nil ?_) | (refine Mix.mix_s (by simp only [List.getElem?_toArray, List.getElem?_cons_zero, List.getElem?_cons_succ]; exact rfl) rfl rfl ?_; go_big_quiet_step (fail); refine wpQuiet_nil ?_))
        intro k3
        refine at_world fun W7 hW7 => ?_
        have M7 := hid (show Mem B w0 (σ2.L B ++ (boxR bs1 :: ((R ++ [blkR rb 41 x.arr]) ++ [rowR B 5 1 (phs ++ [σ1.r.ph]).length (.slice A5 (phs.length + 1) cap5) (phs8 (phs ++ [σ1.r.ph]))]))) W7 from by
          rw [hW7, List.length_append, List.length_singleton]
          have hp := (((((((((((((((M6.out.drewN k2).put2c 0 (.int .i64 x.er)).put2c 1 (.int .i64 x.rev)).put2c 2 (.int .i64 x.sl)).put2c 3 (.int .i64 x.at')).put2c 4 (.int .u8 x.g)).put2c 5 (.string x.s)).put2c 6 (.int .i64 x.b)).put2c 7 (.int .i64 x.r)).put2c 8 (.int .i64 x.l)).put2c 9 (.int .u8 x.ik)).put2c 10 (.int .i64 x.fr)).put2c 11 (.int .i64 x.to)).put2c 12 (.slice none 0 0)).drewN k3)
          rw [show (((((((((((((rzC.setIfInBounds 0 (.int .i64 x.er)).setIfInBounds 1 (.int .i64 x.rev)).setIfInBounds 2 (.int .i64 x.sl)).setIfInBounds 3 (.int .i64 x.at')).setIfInBounds 4 (.int .u8 x.g)).setIfInBounds 5 (.string x.s)).setIfInBounds 6 (.int .i64 x.b)).setIfInBounds 7 (.int .i64 x.r)).setIfInBounds 8 (.int .i64 x.l)).setIfInBounds 9 (.int .u8 x.ik)).setIfInBounds 10 (.int .i64 x.fr)).setIfInBounds 11 (.int .i64 x.to)).setIfInBounds 12 (.slice none 0 0)) = x.arr from by kernel_rfl] at hp
          exact hp)
        clear hW7 r0 rf0 r1 rf1 r2 rf2 r3 rf3 r4 rf4 r5 rf5 r6 rf6 r7 rf7 r8 rf8 r9 rf9 r10 rf10 r11 rf11 r12 rf12
        have BX := hid (show Blk W7 rb 41 x.arr from M7.out.last2c)
        go_wp2_with fail
        have t0 : W7.cell? ⟨rb, 0, none⟩ = some (.int .i64 x.er) := BX.out.cell 0
        have t1 : W7.cell? ⟨rb, 1, none⟩ = some (.int .i64 x.rev) := BX.out.cell 1
        have t2 : W7.cell? ⟨rb, 2, none⟩ = some (.int .i64 x.sl) := BX.out.cell 2
        have t3 : W7.cell? ⟨rb, 3, none⟩ = some (.int .i64 x.at') := BX.out.cell 3
        have t4 : W7.cell? ⟨rb, 4, none⟩ = some (.int .u8 x.g) := BX.out.cell 4
        have t5 : W7.cell? ⟨rb, 5, none⟩ = some (.string x.s) := BX.out.cell 5
        have t6 : W7.cell? ⟨rb, 6, none⟩ = some (.int .i64 x.b) := BX.out.cell 6
        have t7 : W7.cell? ⟨rb, 7, none⟩ = some (.int .i64 x.r) := BX.out.cell 7
        have t8 : W7.cell? ⟨rb, 8, none⟩ = some (.int .i64 x.l) := BX.out.cell 8
        have t9 : W7.cell? ⟨rb, 9, none⟩ = some (.int .u8 x.ik) := BX.out.cell 9
        have t10 : W7.cell? ⟨rb, 10, none⟩ = some (.int .i64 x.fr) := BX.out.cell 10
        have t11 : W7.cell? ⟨rb, 11, none⟩ = some (.int .i64 x.to) := BX.out.cell 11
        have t12 : W7.cell? ⟨rb, 12, none⟩ = some (.slice none 0 0) := BX.out.cell 12
        refine bodyPost_ret (v := .tuple #[.slice A5 (phs.length + 1) cap5, x.v, .bool true]) (by simp [results, Tryz.results12, go_sem, RsV.v, t0, t1, t2, t3, t4, t5, t6, t7, t8, t9, t10, t11, t12]) rfl ?_
        refine ⟨σ2, bs1, x, _, phs ++ [σ1.r.ph], rfl, M7.out.drop2c, SS1.out.trans SS2.out, KK2.out, PP2.out, HEND.out, ?_⟩
        have := HNL.out
        have := HG.out
        have := HK.out
        omega
      · obtain rfl : ed = false := by rw [HED.out, hne]
        have HK' := hid hK'
        have HNE := hid hne
        clear hne hK'
        go_wp2_with fail
        go_roundw
        case rel =>
          refine ⟨f', phs ++ [σ1.r.ph], σ2, bs1, pg2, ?_, ?_, SS1.out.trans SS2.out, KK2.out, PP2.out, HNE.out, HK'.out, ?_, ?_⟩
          · rw [List.length_append, List.length_singleton, ← HK.out]
            go_num
          · rw [List.length_append, List.length_singleton]
            exact M5.out
          · rw [List.length_append, List.length_singleton]
            have := HF.out
            omega
          · rw [List.length_append, List.length_singleton]
            have := HNL.out
            have := HG.out
            omega
        case measure => simp [intOf]; omega
end
section
variable {B : Nat} {w0 w : World} {R : List Res} {σ σ' : RS} {bs' : List Bx} {y : Ly} {n m : Nat} {ts : List (List UInt8)}
def AnnEnd (σ : RS) (m : Nat) (c : Cop) (σ' : RS) (x : RsV) : Prop := match c with
  | .acq => AcqEnd σ m σ' x
  | .rel k => RelEnd σ m k σ' x
  | _ => False
theorem fin_acq (M : Mem B w0 (σ.L B ++ (boxR bs' :: R)) w) (K : RnOk σ y n m ts none) (hb : σ.r.busy = false) (hl : σ.s.lg.length < 700000) :
    Calls Tryz.prog 12 #[.pointer (some ⟨σ.g, 0, none⟩), Cop.acq.op.v] w (FinTo B w0 R σ y n m ts (fun _ σ' x => AnnEnd σ m .acq σ' x)) := by
  refine finish_gen .acq (fun f _ σ1 pg => AcqK σ m σ1 f pg ∧ (f < 4 → lk σ.s.vs 0 = 0)) _ M hl (fun R' W M' => beg_acq M' K hb) (fun σ1 bs1 pg S h1 h2 _ _ hs => ?_) (fun f phs σ1 σ2 hv pg pg' hK _ K1 K2 S1 S2 hn => ?_) (fun R W f phs σ1 bs1 pg M K hl hp he hK => ?_) (fun f phs σ1 pg hK => ?_)
  · rcases hs with ⟨_, rfl⟩ | ⟨h, _⟩
    · exact ⟨4, by decide, .a4 h1 h2, fun h => absurd h (by decide)⟩
    · exact absurd rfl h
  · rcases acqK_step hK.1 S1 hK.2 K K1 hn with ⟨x, hx, he⟩ | ⟨he, f', hf, h0, hk⟩
    · exact .inl ⟨x, hx, he⟩
    · exact .inr ⟨he, f', by omega, hk, fun _ => h0⟩
  · obtain ⟨hK, _⟩ := hK
    cases hK with
    | a4 h1 h2 => exact stp_clos M K hl hp
    | a3 k h0 h1 h2 => exact stp_ep M K hl hp
    | a2 k h0 h1 h2 => exact stp_ann M K hl hp
    | a1 k h0 h1 h2 => exact stp_root M K hl hp
  · obtain ⟨h, _⟩ := hK
    cases h <;> decide
theorem fin_rel {k : Nat} (M : Mem B w0 (σ.L B ++ (boxR bs' :: R)) w) (K : RnOk σ y n m ts none) (hb : σ.r.busy = false) (hl : σ.s.lg.length < 700000) (hk : k < n) :
    Calls Tryz.prog 12 #[.pointer (some ⟨σ.g, 0, none⟩), (Cop.rel k).op.v] w (FinTo B w0 R σ y n m ts (fun _ σ' x => AnnEnd σ m (.rel k) σ' x)) := by
  refine finish_gen (.rel k) (fun f _ σ1 pg => f = 1 ∧ RelK σ k σ1 pg) _ M hl (fun R' W M' => beg_rel M' K hb hk) (fun σ1 bs1 pg S h1 h2 _ _ hs => ?_) (fun f phs σ1 σ2 hv pg pg' hK _ K1 K2 S1 S2 hn => ?_) (fun R W f phs σ1 bs1 pg M K hl hp he hK => ?_) (fun f phs σ1 pg hK => ?_)
  · rcases hs with ⟨h, _⟩ | ⟨_, ⟨h, rfl⟩ | ⟨s, i, tx, h, _, _, hr⟩⟩
    · cases h
    · exact ⟨1, by decide, rfl, .free h h1 h2⟩
    · have hr : pg = .rel k := hr
      subst hr
      exact ⟨1, by decide, rfl, .held s h h1 h2⟩
  · obtain ⟨x, hx, he⟩ := relK_step hK.2 S1 hn
    exact .inl ⟨x, hx, he⟩
  · obtain ⟨_, hK⟩ := hK
    cases hK with
    | free h0 h1 h2 => exact stp_loc M K hp
    | held s h0 h1 h2 => exact stp_rel M K hl hp
  · rw [hK.1]
    decide
theorem fin_ann {c : Cop} (M : Mem B w0 (σ.L B ++ (boxR bs' :: R)) w) (K : RnOk σ y n m ts none) (hb : σ.r.busy = false) (hl : σ.s.lg.length < 700000) (hc : c = .acq ∨ ∃ k, c = .rel k ∧ k < n) :
    Calls Tryz.prog 12 #[.pointer (some ⟨σ.g, 0, none⟩), c.op.v] w (FinTo B w0 R σ y n m ts (fun _ σ' x => AnnEnd σ m c σ' x)) := by
  rcases hc with rfl | ⟨k, rfl, hk⟩
  · exact fin_acq M K hb hl
  · exact fin_rel M K hb hl hk
end
end Go.Proofs.YtjcdknhejcbpiaaGreat
