/- Texts XRn for XPcs, by trim.py. -/
import Derived.Test.YtjcdknhejcbpiaaGreatPb40
import Derived.Test.YtjcdknhejcbpiaaGreatPb30
import Derived.Test.YtjcdknhejcbpiaaGreatPb32
import Derived.Test.YtjcdknhejcbpiaaGreatPb23
namespace Go.Proofs.YtjcdknhejcbpiaaGreat
open Go.RowKit
set_option linter.unusedVariables false
set_option linter.unusedSimpArgs false
set_option linter.unusedSectionVars false
/-- The blocks of a step. -/
structure Bx where
  g : Nat
  t : TypeId
  cs : Array Value
def boxR (bs : List Bx) : Res where
  holds w := ∀ b ∈ bs, Blk w b.g b.t b.cs
  foot k := ∃ b ∈ bs, k = b.g
  stable h c hn := fun b hb => c.blk (h b hb) (hn _ ⟨b, hb, rfl⟩)
  lt h k hk := by
    obtain ⟨b, hb, rfl⟩ := hk
    exact (h b hb).lt
/-- A revision shows a text. -/
def RevOk (ns : List An) (x : Rv) (tx : List UInt8) : Prop :=
  x.b = (mL tx).b ∧ x.r = (mL tx).r ∧ x.l = (mL tx).l ∧ ((tx = [] ∧ x.h = 0) ∨ ∃ ix t, x.at' = hdl ix ∧ Nt ns ix t ∧ t.text = tx ∧ x.h = (t.ht : Int) ∧ t.good ∧ ∃ s : ByteArray, buildT s = [t])
theorem RevOk.app {ns : List An} {x : Rv} {tx : List UInt8} (h : RevOk ns x tx) (ys : List An) : RevOk (ns ++ ys) x tx := by
  obtain ⟨h1, h2, h3, h4⟩ := h
  refine ⟨h1, h2, h3, ?_⟩
  rcases h4 with h4 | ⟨ix, t, a, b, c⟩
  · exact .inl h4
  · exact .inr ⟨ix, t, a, b.app, c⟩
/-- What is known between the steps; hk: the slot that is being acquired. -/
structure RnOk (σ : RS) (y : Ly) (n m : Nat) (ts : List (List UInt8)) (hk : Option Nat) : Prop where
  O : σ.Ok y n m
  P : ArP σ.ns
  nt : ts.length = σ.rs.length
  t8 : ts.length ≤ 200
  tl : ∀ tx ∈ ts, tx.length ≤ 100000
  rv : ∀ (i : Nat) (r : RvS) (tx : List UInt8), σ.rs[i]? = some r → ts[i]? = some tx → RevOk σ.ns r.x tx ∧ r.x.num = 3 * (i : Int) ∧ r.ms.length ≤ 4 ∧ r.ds.length ≤ 4
  rt : ∃ i : Nat, lk σ.s.vs 1 = (i : Int) ∧ i < ts.length
  sn : ∀ (k : Nat) (s : Snp), σ.sl[k]? = some (some s) → ∃ (i : Nat) (r : RvS), σ.rs[i]? = some r ∧ s.x = r.x ∧ s.ms = r.ms ∧ s.ix = (i : Int) ∧ 0 ≤ s.cu ∧ s.cu ≤ s.x.b
  pn : ∀ k, k < n → hk ≠ some k → (σ.sl[k]? = some none ∧ σ.ps[m + k]? = some none ∧ lk σ.s.vs (σ.f.slot (m + k)) = 0) ∨ (∃ s g q, σ.sl[k]? = some (some s) ∧ σ.ps[m + k]? = some (some (g, q)) ∧ q.ph = 0 ∧ lk σ.s.vs (σ.f.slot (m + k)) ≠ 0)
  ep : 0 ≤ lk σ.s.vs σ.f.ep ∧ lk σ.s.vs σ.f.ep < 1000000
  en : ∀ i, i < σ.f.n → σ.f.slot i ≠ σ.f.ep
/-- What an operation does next. -/
inductive Pg
  | fin (x : RsV)
  | loc (x : RsV)
  | clos
  | ep (k : Nat)
  | ann (k : Nat) (v : Int)
  | root (k : Nat)
  | rel (k : Nat)
  | seek (k : Nat) (pos : Int)
  | take (k : Nat) (a : Bool) (pos : Int)
  | byte (k : Nat) (a : Bool) (tx : List UInt8) (p0 N d ix : Nat) (rest : Int) (base : Ms)
  | rune (k : Nat) (tx : List UInt8) (q ix : Nat) (rest : Int) (base : Ms)
  | line (k : Nat) (tx : List UInt8) (q ix : Nat) (rest : Int) (base : Ms)
def Pg.hk : Pg → Option Nat
  | .ep k => some k
  | .ann k _ => some k
  | .root k => some k
  | _ => none
def Pg.ended : Pg → Bool
  | .fin _ => true
  | _ => false
/-- A slot that is being acquired, with its pin. -/
def Acq (σ : RS) (n m k : Nat) (ph : Int) (v : Int) : Prop := σ.r.op = acqOp ∧ σ.r.slot = (k : Int) ∧ k < n ∧ σ.sl[k]? = some none ∧ ∃ g q, σ.r.pin = .pointer (some ⟨g, 0, none⟩) ∧ σ.ps[m + k]? = some (some (g, q)) ∧ q.t = σ.r.cl ∧ q.slot = m + k ∧ q.ph = ph ∧ (ph = 10 → q.seen = v)
/-- The slot of an operation shows a text. -/
def Shows (σ : RS) (ts : List (List UInt8)) (k : Nat) (tx : List UInt8) : Prop := ∃ (s : Snp) (i : Nat), σ.sl[k]? = some (some s) ∧ s.ix = (i : Int) ∧ ts[i]? = some tx
/-- What the reader's cells are, with this to do. -/
def PgAt (σ : RS) (bs : List Bx) (n m : Nat) (ts : List (List UInt8)) : Pg → Prop
  | .fin x => σ.r.busy = false ∧ σ.r.ph = 0 ∧ σ.r.rs = x
  | .loc x => σ.r.busy = true ∧ σ.r.done = false ∧ σ.r.ph = 1 ∧ ∃ rb xb, σ.r.dv = locV rb xb ∧ bs = [⟨rb, 45, #[.pointer (some ⟨σ.g, 0, none⟩)]⟩, ⟨xb, 41, x.arr⟩]
  | .clos => σ.r.busy = true ∧ σ.r.done = false ∧ σ.r.ph = 2 ∧ σ.r.dv = closedF σ.g ∧ σ.r.op = acqOp
  | .ep k => σ.r.busy = true ∧ σ.r.done = false ∧ σ.r.ph = 9 ∧ σ.r.dv = loadF σ.g ∧ Acq σ n m k 9 0
  | .ann k v => σ.r.busy = true ∧ σ.r.done = false ∧ σ.r.ph = 10 ∧ σ.r.dv = loadF σ.g ∧ Acq σ n m k 10 v ∧ 0 ≤ v ∧ v < 1000000
  | .root k => σ.r.busy = true ∧ σ.r.done = false ∧ σ.r.ph = 11 ∧ σ.r.dv = rootF σ.g ∧ Acq σ n m k 0 0 ∧ lk σ.s.vs (σ.f.slot (m + k)) ≠ 0
  | .rel k => σ.r.busy = true ∧ σ.r.done = false ∧ σ.r.ph = 10 ∧ σ.r.dv = releaseF σ.g ∧ σ.r.op.sl = (k : Int) ∧ k < n ∧ ∃ s, σ.sl[k]? = some (some s)
  | .seek k pos => σ.r.busy = true ∧ σ.r.done = false ∧ σ.r.ph = 1 ∧ ∃ ob zb rb s op, σ.r.dv = seekV ob zb rb ∧ σ.sl[k]? = some (some s) ∧ op.at' = pos ∧ 0 ≤ pos ∧ pos ≤ s.x.b ∧ bs = [⟨ob, 26, OpV.arr op⟩, ⟨zb, 140, #[.pointer (some ⟨s.g, 0, none⟩)]⟩, ⟨rb, 45, #[.pointer (some ⟨σ.g, 0, none⟩)]⟩]
  | .take k a pos => σ.r.busy = true ∧ σ.r.done = false ∧ σ.r.ph = 1 ∧ σ.r.dv = takenF σ.g ∧ σ.r.op.k = (if a then 12 else 7) ∧ σ.r.op.sl = (k : Int) ∧ σ.tx = [] ∧ σ.r.next = pos ∧ ∃ s, σ.sl[k]? = some (some s) ∧ 0 ≤ pos ∧ pos ≤ s.x.b
  | .byte k a tx p0 N d ix rest base => σ.r.busy = true ∧ σ.r.done = false ∧ σ.r.ph = 12 ∧ σ.r.dv = visF σ.g ∧ σ.r.op.k = (if a then 12 else 7) ∧ σ.r.op.sl = (k : Int) ∧ Shows σ ts k tx ∧ σ.r.at' = hdl ix ∧ σ.r.rest = rest ∧ σ.r.base = base ∧ σ.r.next = ((p0 + d : Nat) : Int) ∧ σ.r.need = ((N - d : Nat) : Int) ∧ d < N ∧ p0 + N ≤ tx.length ∧ σ.tx = (tx.drop p0).take d ∧ Dn (fun m => m.b) tx σ.ns ix ((p0 + d : Nat) : Int) rest base
  | .rune k tx q ix rest base => σ.r.busy = true ∧ σ.r.done = false ∧ σ.r.ph = 12 ∧ σ.r.dv = visRF σ.g ∧ Shows σ ts k tx ∧ σ.r.at' = hdl ix ∧ σ.r.rest = rest ∧ σ.r.base = base ∧ Dn (fun m => m.r) tx σ.ns ix (q : Int) rest base
  | .line k tx q ix rest base => σ.r.busy = true ∧ σ.r.done = false ∧ σ.r.ph = 12 ∧ σ.r.dv = visLF σ.g ∧ Shows σ ts k tx ∧ σ.r.at' = hdl ix ∧ σ.r.rest = rest ∧ σ.r.base = base ∧ Dn (fun m => m.l) tx σ.ns ix (q : Int) (rest - 1) base
/-- What a reader's step leaves alone. -/
structure Same (σ σ' : RS) : Prop where
  g : σ'.g = σ.g
  sb : σ'.r.sb = σ.r.sb
  cl : σ'.r.cl = σ.r.cl
  lb : σ'.lb = σ.lb
  cs : σ'.cs = σ.cs
  p : σ'.p = σ.p
  cb : σ'.cb = σ.cb
  eb : σ'.eb = σ.eb
  f : σ'.f = σ.f
  sc : σ'.sc = σ.sc
  pb : σ'.pb = σ.pb
  rv : σ'.rv = σ.rv
  rs : σ'.rs = σ.rs
  A : σ'.A = σ.A
  ns : σ'.ns = σ.ns
  st : σ'.st = σ.st
/-- What a step does, plainly. -/
def Nxt (σ σ' : RS) (m : Nat) (hv : Int) (pg' : Pg) : Pg → Prop
  | .fin _ => False
  | .loc x => hv = 0 ∧ σ'.s = σ.s ∧ σ'.sl = σ.sl ∧ pg' = .fin x
  | .clos => hv = 0 ∧ σ'.s = σ.s.load σ.r.cl 0 ∧ σ'.sl = σ.sl ∧ ((lk σ.s.vs 0 ≠ 0 ∧ pg' = .fin { RsV.zero with er := 13 }) ∨ (lk σ.s.vs 0 = 0 ∧ free1 (σ.sl.map sptr) 0 < 0 ∧ pg' = .fin { RsV.zero with er := 15 }) ∨ (lk σ.s.vs 0 = 0 ∧ ∃ k : Nat, free1 (σ.sl.map sptr) 0 = (k : Int) ∧ pg' = .ep k))
  | .ep k => hv = 0 ∧ σ'.s = σ.s.load σ.r.cl σ.f.ep ∧ σ'.sl = σ.sl ∧ pg' = .ann k (lk σ.s.vs σ.f.ep)
  | .ann k v => hv = 0 ∧ σ'.s = σ.s.store σ.r.cl (σ.f.slot (m + k) : Nat) (v + 1) ∧ σ'.sl = σ.sl ∧ pg' = .root k
  | .root k => hv = 0 ∧ σ'.s = σ.s.load σ.r.cl 1 ∧ ∃ (i : Nat) (r : RvS) (s : Snp), lk σ.s.vs 1 = (i : Int) ∧ σ.rs[i]? = some r ∧ s.x = r.x ∧ s.ms = r.ms ∧ s.ix = (i : Int) ∧ s.cu = 0 ∧ σ'.sl = σ.sl.set k (some s) ∧ pg' = .fin { RsV.zero with sl := (k : Int), rev := r.x.num }
  | .rel k => hv = 0 ∧ σ'.s = σ.s.store σ.r.cl (σ.f.slot (m + k) : Nat) 0 ∧ σ'.sl = σ.sl.set k none ∧ pg' = .fin RsV.zero
  | .seek k pos => hv = 0 ∧ σ'.s = σ.s ∧ (∃ s, σ.sl[k]? = some (some s) ∧ σ'.sl = σ.sl.set k (some { s with cu := pos })) ∧ pg' = .fin { RsV.zero with at' := pos }
  | .take k a pos => hv = 0 ∧ σ'.s = σ.s ∧ (if a then ∃ s, σ.sl[k]? = some (some s) ∧ σ'.sl = σ.sl.set k (some { s with cu := pos }) else σ'.sl = σ.sl) ∧ pg' = .fin { RsV.zero with at' := if a then pos else 0 }
  | .byte k a tx p0 N d ix rest base => hv = hdl ix ∧ σ'.s = σ.s ∧ ∃ z, σ.ns[ix]? = some z ∧
      ((z.x.h ≠ 0 ∧ σ'.sl = σ.sl ∧ ∃ (ci : Nat) (k' : Kd) (q : Int), z.x.ks[ci]? = some k' ∧ Chosen (fun m => m.b) (z.x.ks.map Kd.m) rest ci q ∧ pg' = .byte k a tx p0 N d k'.at' q (bsK base z.x.ks ci)) ∨
       (z.x.h = 0 ∧ ∃ c rn : Nat, rest = (rn : Int) ∧ c = min (N - d) (z.x.s.size - rn) ∧
         ((d + c < N ∧ σ'.sl = σ.sl ∧ ∃ jx, pg' = .byte k a tx p0 N (d + c) jx ((p0 + (d + c) : Nat) : Int) ⟨0, 0, 0⟩ ∧ ∃ s, σ.sl[k]? = some (some s) ∧ s.x.at' = hdl jx) ∨
          (d + c = N ∧ (if a then ∃ s, σ.sl[k]? = some (some s) ∧ σ'.sl = σ.sl.set k (some { s with cu := ((p0 + N : Nat) : Int) }) else σ'.sl = σ.sl) ∧ pg' = .fin { RsV.zero with s := ⟨((tx.drop p0).take N).toArray⟩, at' := if a then ((p0 + N : Nat) : Int) else 0 }))))
  | .rune k tx q ix rest base => hv = hdl ix ∧ σ'.s = σ.s ∧ σ'.sl = σ.sl ∧ ∃ z, σ.ns[ix]? = some z ∧
      ((z.x.h ≠ 0 ∧ ∃ (ci : Nat) (k' : Kd) (r : Int), z.x.ks[ci]? = some k' ∧ Chosen (fun m => m.r) (z.x.ks.map Kd.m) rest ci r ∧ pg' = .rune k tx q k'.at' r (bsK base z.x.ks ci)) ∨
       (z.x.h = 0 ∧ pg' = .fin { RsV.zero with at' := ((nthP begB (u8s tx) q : Nat) : Int) }))
  | .line k tx q ix rest base => hv = hdl ix ∧ σ'.s = σ.s ∧ σ'.sl = σ.sl ∧ ∃ z, σ.ns[ix]? = some z ∧
      ((z.x.h ≠ 0 ∧ ∃ (ci : Nat) (k' : Kd) (r : Int), z.x.ks[ci]? = some k' ∧ Chosen (fun m => m.l) (z.x.ks.map Kd.m) (rest - 1) ci r ∧ pg' = .line k tx q k'.at' (r + 1) (bsK base z.x.ks ci)) ∨
       (z.x.h = 0 ∧ pg' = .fin { RsV.zero with at' := ((nthP isLF (u8s tx) q : Nat) : Int) + 1 }))
/-- What a step leaves in memory. -/
def StepTo (B : Nat) (w0 : World) (R : List Res) (σ : RS) (bs : List Bx) (y : Ly) (n m : Nat) (ts : List (List UInt8)) (pg : Pg) (e : Ending) (w' : World) : Prop :=
  ∃ hv σ' pg', e = .returned (.tuple #[stepV σ.r.cl σ.r.ph (decide (σ.s.lg.length < σ'.s.lg.length)) hv pg'.ended pg'.ended, .int .i64 0]) ∧ Mem B w0 (σ'.L B ++ (boxR bs :: R)) w' ∧ Same σ σ' ∧ RnOk σ' y n m ts pg'.hk ∧ PgAt σ' bs n m ts pg' ∧ Nxt σ σ' m hv pg' pg
end Go.Proofs.YtjcdknhejcbpiaaGreat
