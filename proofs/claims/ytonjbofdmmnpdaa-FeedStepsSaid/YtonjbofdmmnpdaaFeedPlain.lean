/- The feed: what its steps compute (plain). -/
import Derived.Test.YtonjbofdmmnpdaaCellB
namespace Go.Proofs.Ytonjbofdmmnpdaa
set_option linter.unusedVariables false
set_option linter.unusedSimpArgs false

theorem lk_app_l {l m : List Int} {i : Nat} (h : i < l.length) : lk (l ++ m) i = lk l i := by
  simp [lk, List.getD_eq_getElem?_getD, List.getElem?_append_left h]
theorem lk_snoc {l : List Int} {x : Int} : lk (l ++ [x]) l.length = x := by simp [lk, List.getD_eq_getElem?_getD]
theorem lk_set_ne {l : List Int} {i j : Nat} (x : Int) (h : i ≠ j) : lk (l.set i x) j = lk l j := by
  simp [lk, List.getD_eq_getElem?_getD, List.getElem?_set, h]
theorem load_vs (s : BS) (t c : Int) : (s.load t c).vs = s.vs := rfl
theorem store_vs (s : BS) (t c v : Int) : (s.store t c v).vs = s.vs.set c.toNat v := rfl
theorem swap_vs (s : BS) (t c v : Int) : (s.swap t c v).vs = s.vs.set c.toNat v := rfl
theorem cas_vs (s : BS) (t c o v : Int) : (s.cas t c o v).vs = if lk s.vs c.toNat = o then s.vs.set c.toNat v else s.vs := by
  unfold BS.cas BS.setlog BS.log; split <;> rfl
theorem load_lg (s : BS) (t c : Int) : (s.load t c).lg.length = s.lg.length + 1 := by simp [BS.load, BS.log]
theorem store_lg (s : BS) (t c v : Int) : (s.store t c v).lg.length = s.lg.length + 1 := by simp [BS.store, BS.setlog]
theorem swap_lg (s : BS) (t c v : Int) : (s.swap t c v).lg.length = s.lg.length + 1 := by simp [BS.swap, BS.setlog]
theorem cas_lg (s : BS) (t c o v : Int) : (s.cas t c o v).lg.length = s.lg.length + 1 := by
  unfold BS.cas BS.setlog BS.log; split <;> simp

/-- A feed, but for its cells. -/
structure Fd where
  first : Nat
  n : Nat
  last : Int
  pushing : Bool
  receiving : Bool
/-- A push. -/
structure Pd where
  t : Int
  ph : Int
  p : Int
  l : Int
/-- A reception. -/
structure Rd where
  t : Int
  ph : Int
  after : Int
  l : Int
  value : Int
  lagged : Bool
  err : Int

def Fd.ent (f : Fd) (i : Int) : Nat := f.first + 4 + (i % (f.n : Int)).toNat
def cAct (s : BS) (f : Fd) : Int := lk s.vs f.first
def cLag (s : BS) (f : Fd) : Int := lk s.vs (f.first + 1)
def cHead (s : BS) (f : Fd) : Int := lk s.vs (f.first + 2)
def cTail (s : BS) (f : Fd) : Int := lk s.vs (f.first + 3)

/-- A step of a push: the bank, the next phase, what was loaded of the lag cell. -/
def pstep (s : BS) (f : Fd) (q : Pd) : BS × Int × Int :=
  if q.ph = 26 then (s.load q.t f.first, if cAct s f = 0 then 0 else 27, q.l)
  else if q.ph = 27 then (s.load q.t (f.first + 1 : Nat), if cLag s f = 0 then 29 else 28, cLag s f)
  else if q.ph = 28 then (s.cas q.t (f.first + 1 : Nat) q.l q.p, if cLag s f = q.l then 0 else 29, q.l)
  else if q.ph = 29 then (s.load q.t (f.first + 2 : Nat), if w64 (cTail s f - cHead s f) < f.n then 30 else 32, q.l)
  else if q.ph = 30 then (s.store q.t (f.ent (cTail s f)) q.p, 31, q.l)
  else if q.ph = 31 then (s.store q.t (f.first + 3 : Nat) (w64 (cTail s f + 1)), 0, q.l)
  else (s.store q.t (f.first + 1 : Nat) q.p, 0, q.l)

/-- A step of a reception. -/
def rstep (s : BS) (f : Fd) (r : Rd) : BS × Rd :=
  if r.ph = 14 then (s.load r.t (f.first + 1 : Nat), { r with l := cLag s f, ph := 15 })
  else if r.ph = 15 then (s.load r.t (f.first + 3 : Nat), if cTail s f = cHead s f then (if r.l = 0 then { r with ph := 0, err := 17 } else { r with ph := 18 }) else { r with ph := 16 })
  else if r.ph = 16 then (s.load r.t (f.ent (cHead s f)), { r with ph := 17, value := lk s.vs (f.ent (cHead s f)) })
  else if r.ph = 17 then (s.store r.t (f.first + 2 : Nat) (w64 (cHead s f + 1)), if r.value ≤ r.after then { r with ph := 14, value := 0 } else { r with ph := 0 })
  else (s.swap r.t (f.first + 1 : Nat) 0, if r.after < cLag s f then { r with ph := 0, value := cLag s f, lagged := true } else { r with ph := 0, value := 0, lagged := false, err := 17 })

def Pd.next (q : Pd) (o : BS × Int × Int) : Pd := { q with ph := o.2.1, l := o.2.2 }
def Fd.psh (F : Fd) (b : Bool) : Fd := { F with pushing := b }
def Fd.rcv (F : Fd) (b : Bool) : Fd := { F with receiving := b }
/-- The items of the feed. -/
def flist (s : BS) (f : Fd) : List Int := (List.range (cTail s f - cHead s f).toNat).map fun (j : Nat) => lk s.vs (f.ent (cHead s f + (j : Int)))
end Go.Proofs.Ytonjbofdmmnpdaa
