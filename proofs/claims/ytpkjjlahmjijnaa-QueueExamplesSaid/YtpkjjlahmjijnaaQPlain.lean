/- The queue: what its steps compute (plain). -/
import Derived.Test.YtpkjjlahmjijnaaCellB
namespace Go.Proofs.Ytpkjjlahmjijnaa
set_option linter.unusedVariables false
set_option linter.unusedSimpArgs false

theorem lk_app_l {l m : List Int} {i : Nat} (h : i < l.length) : lk (l ++ m) i = lk l i := by
  simp [lk, List.getD_eq_getElem?_getD, List.getElem?_append_left h]
theorem lk_snoc {l : List Int} {x : Int} : lk (l ++ [x]) l.length = x := by simp [lk, List.getD_eq_getElem?_getD]
theorem lk_set_ne {l : List Int} {i j : Nat} (x : Int) (h : i ≠ j) : lk (l.set i x) j = lk l j := by
  simp [lk, List.getD_eq_getElem?_getD, List.getElem?_set, h]
theorem load_vs (s : BS) (t c : Int) : (s.load t c).vs = s.vs := rfl
theorem store_vs (s : BS) (t c v : Int) : (s.store t c v).vs = s.vs.set c.toNat v := rfl
theorem cas_vs (s : BS) (t c o v : Int) : (s.cas t c o v).vs = if lk s.vs c.toNat = o then s.vs.set c.toNat v else s.vs := by
  unfold BS.cas BS.setlog BS.log; split <;> rfl
theorem load_lg (s : BS) (t c : Int) : (s.load t c).lg.length = s.lg.length + 1 := by simp [BS.load, BS.log]
theorem store_lg (s : BS) (t c v : Int) : (s.store t c v).lg.length = s.lg.length + 1 := by simp [BS.store, BS.setlog]
theorem cas_lg (s : BS) (t c o v : Int) : (s.cas t c o v).lg.length = s.lg.length + 1 := by
  unfold BS.cas BS.setlog BS.log; split <;> simp

/-- A queue's cells. -/
structure Qd where
  head : Nat
  tail : Nat
  ring : Nat
  n : Nat
/-- A push. -/
structure Pu where
  t : Int
  v : Int
  fr : Int
  sn : Int
  ph : Int
  er : Int
/-- A pull. -/
structure Pl where
  t : Int
  at' : Int
  got : Int
  ph : Int
  er : Int
  fin : Bool

def Qd.ent (f : Qd) (i : Int) : Nat := f.ring + (i % (f.n : Int)).toNat
def qH (s : BS) (f : Qd) : Int := lk s.vs f.head
def qT (s : BS) (f : Qd) : Int := lk s.vs f.tail

/-- A step of a push. -/
def pustep (s : BS) (f : Qd) (p : Pu) : BS × Pu :=
  if p.ph = 4 then (s.load p.t f.tail, { p with fr := qT s f, ph := 5 })
  else if p.ph = 5 then (s.load p.t f.head, if p.fr < qH s f then { p with sn := qH s f, ph := 4 } else if (f.n : Int) ≤ p.fr - qH s f then { p with sn := qH s f, ph := 0, er := 14 } else { p with sn := qH s f, ph := 6 })
  else if p.ph = 6 then (s.cas p.t f.tail p.fr (w64 (p.fr + 1)), if qT s f = p.fr then { p with ph := 7 } else { p with ph := 4 })
  else if p.ph = 7 then (s.store p.t (f.ent p.fr) p.v, { p with ph := 0 })
  else (s, p)

/-- A step of a pull. -/
def plstep (s : BS) (f : Qd) (p : Pl) : BS × Pl :=
  if p.ph = 19 then (s.load p.t (f.ent p.at'), if lk s.vs (f.ent p.at') = 0 then { p with got := 0, ph := 0, er := 17, fin := true } else { p with got := lk s.vs (f.ent p.at'), ph := 20 })
  else if p.ph = 20 then (s.store p.t (f.ent p.at') 0, { p with ph := 21 })
  else if p.ph = 21 then (s.store p.t f.head (w64 (p.at' + 1)), { p with ph := 0, fin := true })
  else (s, p)

/-- The values of a queue. -/
def qlist (s : BS) (f : Qd) : List Int := (List.range (qT s f - qH s f).toNat).map fun (j : Nat) => lk s.vs (f.ent (qH s f + (j : Int)))
end Go.Proofs.Ytpkjjlahmjijnaa
