/- The queue: the steps, phase by phase (plain). -/
import Derived.Test.YtpkjjlahmjijnaaQPlain
namespace Go.Proofs.Ytpkjjlahmjijnaa
set_option linter.unusedSimpArgs false
set_option linter.unusedVariables false

theorem pustep4 {s : BS} {f : Qd} {p : Pu} (h : p.ph = 4) : pustep s f p = (s.load p.t f.tail, { p with fr := qT s f, ph := 5 }) := by unfold pustep; rw [if_pos h]
theorem pustep5a {s : BS} {f : Qd} {p : Pu} (h : p.ph = 5) (hc : p.fr < qH s f) : pustep s f p = (s.load p.t f.head, { p with sn := qH s f, ph := 4 }) := by
  unfold pustep; rw [if_neg (by rw [h]; decide), if_pos h, if_pos hc]
theorem pustep5b {s : BS} {f : Qd} {p : Pu} (h : p.ph = 5) (hc : ¬ p.fr < qH s f) (hd : (f.n : Int) ≤ p.fr - qH s f) : pustep s f p = (s.load p.t f.head, { p with sn := qH s f, ph := 0, er := 14 }) := by
  unfold pustep; rw [if_neg (by rw [h]; decide), if_pos h, if_neg hc, if_pos hd]
theorem pustep5c {s : BS} {f : Qd} {p : Pu} (h : p.ph = 5) (hc : ¬ p.fr < qH s f) (hd : ¬ (f.n : Int) ≤ p.fr - qH s f) : pustep s f p = (s.load p.t f.head, { p with sn := qH s f, ph := 6 }) := by
  unfold pustep; rw [if_neg (by rw [h]; decide), if_pos h, if_neg hc, if_neg hd]
theorem pustep6a {s : BS} {f : Qd} {p : Pu} (h : p.ph = 6) (hc : qT s f = p.fr) : pustep s f p = (s.cas p.t f.tail p.fr (w64 (p.fr + 1)), { p with ph := 7 }) := by
  unfold pustep; rw [if_neg (by rw [h]; decide), if_neg (by rw [h]; decide), if_pos h, if_pos hc]
theorem pustep6b {s : BS} {f : Qd} {p : Pu} (h : p.ph = 6) (hc : ¬ qT s f = p.fr) : pustep s f p = (s.cas p.t f.tail p.fr (w64 (p.fr + 1)), { p with ph := 4 }) := by
  unfold pustep; rw [if_neg (by rw [h]; decide), if_neg (by rw [h]; decide), if_pos h, if_neg hc]
theorem pustep7 {s : BS} {f : Qd} {p : Pu} (h : p.ph = 7) : pustep s f p = (s.store p.t (f.ent p.fr) p.v, { p with ph := 0 }) := by
  unfold pustep; rw [if_neg (by rw [h]; decide), if_neg (by rw [h]; decide), if_neg (by rw [h]; decide), if_pos h]

theorem plstep19a {s : BS} {f : Qd} {p : Pl} (h : p.ph = 19) (hc : lk s.vs (f.ent p.at') = 0) : plstep s f p = (s.load p.t (f.ent p.at'), { p with got := 0, ph := 0, er := 17, fin := true }) := by
  unfold plstep; rw [if_pos h, if_pos hc]
theorem plstep19b {s : BS} {f : Qd} {p : Pl} (h : p.ph = 19) (hc : lk s.vs (f.ent p.at') ≠ 0) : plstep s f p = (s.load p.t (f.ent p.at'), { p with got := lk s.vs (f.ent p.at'), ph := 20 }) := by
  unfold plstep; rw [if_pos h, if_neg hc]
theorem plstep20 {s : BS} {f : Qd} {p : Pl} (h : p.ph = 20) : plstep s f p = (s.store p.t (f.ent p.at') 0, { p with ph := 21 }) := by
  unfold plstep; rw [if_neg (by rw [h]; decide), if_pos h]
theorem plstep21 {s : BS} {f : Qd} {p : Pl} (h : p.ph = 21) : plstep s f p = (s.store p.t f.head (w64 (p.at' + 1)), { p with ph := 0, fin := true }) := by
  unfold plstep; rw [if_neg (by rw [h]; decide), if_neg (by rw [h]; decide), if_pos h]

end Go.Proofs.Ytpkjjlahmjijnaa
