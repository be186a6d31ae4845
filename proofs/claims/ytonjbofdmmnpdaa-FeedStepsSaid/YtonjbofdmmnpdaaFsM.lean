/- FeedSteps: its memory, one contract per call. -/
import Derived.Test.YtonjbofdmmnpdaaRFC
import Derived.Test.YtonjbofdmmnpdaaFeedE
import Derived.Test.YtonjbofdmmnpdaaNil
import Derived.Test.YtonjbofdmmnpdaaSep
namespace Go.Proofs.Ytonjbofdmmnpdaa
open Go.RowKit
set_option linter.unusedVariables false
set_option linter.unusedSimpArgs false
set_option linter.unusedSectionVars false

abbrev PO := Option (Nat × Nat × Pd)
abbrev RO := Option (Nat × Nat × Rd × Int)
def feedR (B p cb fb : Nat) (lv : Value) (s : BS) (F : Fd) : Res where
  holds w := FeedM B w p cb fb lv s F
  foot k := FP p cb lv k ∨ k = fb
  stable h c hn := h.ch c (fun e => hn _ (.inl (.inl rfl)) e) (fun e => hn _ (.inl (.inr (.inl rfl))) e) (fun k hk e => hn k (.inl (.inr (.inr hk))) e) (fun e => hn _ (.inr rfl) e)
  lt h k hk := by
    rcases hk with (rfl | rfl | hk) | rfl
    · exact h.b.hp.lt
    · exact h.b.hc.lt
    · exact (h.b.hl.lt k hk).2
    · exact h.fd.lt
def rfeedR (B rp vb rf : Nat) (mv : Value) (s : BS) (F : Fd) : Res where
  holds w := RFeedM B w rp vb rf mv s F
  foot k := FP rp vb mv k ∨ k = rf
  stable h c hn := h.ch c (fun k hk => hn k hk)
  lt h k hk := by
    rcases hk with (rfl | rfl | hk) | rfl
    · exact h.b.hp.lt
    · exact h.b.hc.lt
    · exact (h.b.hl.lt k hk).2
    · exact h.fd.lt
def pdR (fb : Nat) : PO → Res
  | some (g, _, q) => blkR g 106 (pdCells fb q)
  | none => pureR True
def rpdR (rf : Nat) : PO → Res
  | some (_, g, q) => blkR g 116 (rpdCells rf q)
  | none => pureR True
def rdR (fb : Nat) : RO → Res
  | some (g, _, r, _) => blkR g 108 (rdCells fb r)
  | none => pureR True
def rrdR (rf : Nat) : RO → Res
  | some (_, g, r, v) => blkR g 118 (rrdCells rf r v)
  | none => pureR True
def pV : PO → Value
  | some (g, _, _) => .pointer (some ⟨g, 0, none⟩)
  | none => .pointer none
def rpV : PO → Value
  | some (_, g, _) => .pointer (some ⟨g, 0, none⟩)
  | none => .pointer none
def rV : RO → Value
  | some (g, _, _, _) => .pointer (some ⟨g, 0, none⟩)
  | none => .pointer none
def rrV : RO → Value
  | some (_, g, _, _) => .pointer (some ⟨g, 0, none⟩)
  | none => .pointer none
def pPh : PO → Int
  | some (_, _, q) => q.ph
  | none => 0
def rPh : RO → Int
  | some (_, _, r, _) => r.ph
  | none => 0
def rOutc : RO → Int × Bool × Int
  | some (_, _, r, _) => if r.ph = 0 then (r.value, r.lagged, r.err) else (0, false, 8)
  | none => (0, false, 1)
/-- A step of the push, if there is one. -/
def pOut (s : BS) (F : Fd) : PO → BS × Fd × PO × Int × Bool
  | none => (s, F, none, 0, false)
  | some (g, g', q) => if q.ph = 0 then (s, F, some (g, g', q), 0, true) else ((Go.Proofs.Ytonjbofdmmnpdaa.pstep s F q).1, F.psh ((Go.Proofs.Ytonjbofdmmnpdaa.pstep s F q).2.1 != 0), some (g, g', q.next (Go.Proofs.Ytonjbofdmmnpdaa.pstep s F q)), q.ph, (Go.Proofs.Ytonjbofdmmnpdaa.pstep s F q).2.1 == 0)
def rOut (s : BS) (F : Fd) : RO → BS × Fd × RO × Int × Bool
  | none => (s, F, none, 0, false)
  | some (g, g', r, v) => if r.ph = 0 then (s, F, some (g, g', r, v), 0, true) else ((Go.Proofs.Ytonjbofdmmnpdaa.rstep s F r).1, F.rcv ((Go.Proofs.Ytonjbofdmmnpdaa.rstep s F r).2.ph != 0), some (g, g', (Go.Proofs.Ytonjbofdmmnpdaa.rstep s F r).2, rrv s F r v), r.ph, (Go.Proofs.Ytonjbofdmmnpdaa.rstep s F r).2.ph == 0)
def aOut (s : BS) (F : Fd) (t : Int) : BS × Int := if ¬ (0 ≤ t ∧ t < 16) then (s, 2) else if cAct s F ≠ 0 then (s, 9) else (s.store t F.first 1, 0)
/-- What is known of the events so far. -/
structure FsK (n M : Nat) (s : BS) (F : Fd) (P : PO) (R : RO) : Prop where
  fi : FI M n s F
  hM : M ≤ 500000
  n1 : 1 ≤ n
  n6 : n ≤ 6
  pb : F.pushing = (pPh P != 0)
  rb : F.receiving = (rPh R != 0)
  pi : ∀ g g' q, P = some (g, g', q) → PdI n s F q
  ri : ∀ g g' r v, R = some (g, g', r, v) → RdI s F r v
/-- The memory: the program's half, the reference's half. -/
def FsA (B p cb fb rp vb rf : Nat) (s : BS) (F : Fd) (P : PO) (R : RO) (s2 : BS) (F2 : Fd) (P2 : PO) (R2 : RO) (w0 w : World) : Prop :=
  ∃ lv mv, Mem B w0 [feedR B p cb fb lv s F, rfeedR B rp vb rf mv s2 F2, pdR fb P, rpdR rf P2, rdR fb R, rrdR rf R2] w
section
variable {B p cb fb rp vb rf n M : Nat} {s s2 : BS} {F F2 : Fd} {P P2 : PO} {R R2 : RO} {w0 w w' : World}
theorem FsA.keep (h : FsA B p cb fb rp vb rf s F P R s2 F2 P2 R2 w0 w) (c : Ch (fun _ => False) w w') : FsA B p cb fb rp vb rf s F P R s2 F2 P2 R2 w0 w' := by obtain ⟨a, b, h⟩ := h; exact ⟨a, b, h.keep c⟩
theorem FsA.drewN (h : FsA B p cb fb rp vb rf s F P R s2 F2 P2 R2 w0 w) (m : Nat) : FsA B p cb fb rp vb rf s F P R s2 F2 P2 R2 w0 (w.drewN m) := h.keep ((Ch.refl _ w).drewN m)
theorem FsA.bel (h : FsA B p cb fb rp vb rf s F P R s2 F2 P2 R2 w0 w) : Below B w0 w := by obtain ⟨_, _, h⟩ := h; exact h.bel
theorem ffp_new {a b c : Nat} {v v' : Value} {W : World} (hf : Fresh W v v') {k : Nat} (h : FP a b v' k ∨ k = c) : (FP a b v k ∨ k = c) ∨ W.heap.size ≤ k := by
  rcases h with (e | e | e) | e
  · exact .inl (.inl (.inl e))
  · exact .inl (.inl (.inr (.inl e)))
  · rcases hf with e' | e'
    · exact .inl (.inl (.inr (.inr (by rw [← e']; exact e))))
    · exact .inr (e' k e)
  · exact .inl (.inr e)
theorem ffp3 {a b c g : Nat} {v : Value} {k : Nat} (e : FP a b v k ∨ k = c ∨ k = g) : (FP a b v k ∨ k = c) ∨ k = g := by
  rcases e with e | e | e
  · exact .inl (.inl e)
  · exact .inl (.inr e)
  · exact .inr e
theorem FsA.push (h : FsA B p cb fb rp vb rf s F P R s2 F2 P2 R2 w0 w) (t v : Int) (ht : 0 ≤ t ∧ t < 16) (hv : F.last < v) (hp : F.pushing = false) : Calls Try.prog 30 #[.pointer (some ⟨fb, 0, none⟩), .int .i64 t, .int .u64 v] w fun e w' => ∃ g, e = .returned (.tuple #[.pointer (some ⟨g, 0, none⟩), .int .i64 0]) ∧ FsA B p cb fb rp vb rf s { F with last := v, pushing := true } (some (g, 0, ⟨t, 26, v, 0⟩)) R s2 F2 P2 R2 w0 w' := by
  obtain ⟨lv, mv, h⟩ := h
  refine (fpush_ok B p cb fb lv s F w (h.each 0 _ rfl) t v ht hv hp).mono ?_
  rintro e w' ⟨g, he, hE, hg, c, hgs⟩
  exact ⟨g, he, lv, mv, h.upd2 (i := 2) (j := 0) (blkR g 106 (pdCells fb ⟨t, 26, v, 0⟩)) (feedR B p cb fb lv s { F with last := v, pushing := true }) rfl rfl (by decide) c (fun k _ e => .inr (.inr e)) hg hE (fun k hk => .inr (by rw [show k = g from hk]; exact hgs)) (fun k hk => hk)⟩
theorem FsA.rpush (h : FsA B p cb fb rp vb rf s F P R s2 F2 P2 R2 w0 w) (t v : Int) (ht : 0 ≤ t ∧ t < 16) (hv0 : v ≠ 0) (hv : F2.last < v) (hp : F2.pushing = false) : Calls Try.prog 38 #[.pointer (some ⟨rf, 0, none⟩), .int .i64 t, .int .u64 v] w fun e w' => ∃ g, e = .returned (.tuple #[.pointer (some ⟨g, 0, none⟩), .int .i64 0]) ∧ FsA B p cb fb rp vb rf s F P R s2 { F2 with last := v, pushing := true } (some (0, g, ⟨t, 26, v, 0⟩)) R2 w0 w' := by
  obtain ⟨lv, mv, h⟩ := h
  refine (rfpush_ok B rp vb rf mv s2 F2 w (h.each 1 _ rfl) t v ht hv0 hv hp).mono ?_
  rintro e w' ⟨g, he, hE, hg, c, hgs⟩
  exact ⟨g, he, lv, mv, h.upd2 (i := 3) (j := 1) (blkR g 116 (rpdCells rf ⟨t, 26, v, 0⟩)) (rfeedR B rp vb rf mv s2 { F2 with last := v, pushing := true }) rfl rfl (by decide) c (fun k _ e => .inr (.inr e)) hg hE (fun k hk => .inr (by rw [show k = g from hk]; exact hgs)) (fun k hk => hk)⟩
theorem FsA.recv (h : FsA B p cb fb rp vb rf s F P R s2 F2 P2 R2 w0 w) (t v : Int) (ht : 0 ≤ t ∧ t < 16) (hp : F.receiving = false) : Calls Try.prog 31 #[.pointer (some ⟨fb, 0, none⟩), .int .i64 t, .int .u64 v] w fun e w' => ∃ g, e = .returned (.tuple #[.pointer (some ⟨g, 0, none⟩), .int .i64 0]) ∧ FsA B p cb fb rp vb rf s { F with receiving := true } P (some (g, 0, ⟨t, 14, v, 0, 0, false, 0⟩, 0)) s2 F2 P2 R2 w0 w' := by
  obtain ⟨lv, mv, h⟩ := h
  refine (frecv_ok B p cb fb lv s F w (h.each 0 _ rfl) t v ht hp).mono ?_
  rintro e w' ⟨g, he, hE, hg, c, hgs⟩
  exact ⟨g, he, lv, mv, h.upd2 (i := 4) (j := 0) (blkR g 108 (rdCells fb ⟨t, 14, v, 0, 0, false, 0⟩)) (feedR B p cb fb lv s { F with receiving := true }) rfl rfl (by decide) c (fun k _ e => .inr (.inr e)) hg hE (fun k hk => .inr (by rw [show k = g from hk]; exact hgs)) (fun k hk => hk)⟩
theorem FsA.rrecv (h : FsA B p cb fb rp vb rf s F P R s2 F2 P2 R2 w0 w) (t v : Int) (ht : 0 ≤ t ∧ t < 16) (hp : F2.receiving = false) : Calls Try.prog 39 #[.pointer (some ⟨rf, 0, none⟩), .int .i64 t, .int .u64 v] w fun e w' => ∃ g, e = .returned (.tuple #[.pointer (some ⟨g, 0, none⟩), .int .i64 0]) ∧ FsA B p cb fb rp vb rf s F P R s2 { F2 with receiving := true } P2 (some (0, g, ⟨t, 14, v, 0, 0, false, 0⟩, 0)) w0 w' := by
  obtain ⟨lv, mv, h⟩ := h
  refine (rfrecv_ok B rp vb rf mv s2 F2 w (h.each 1 _ rfl) t v ht hp).mono ?_
  rintro e w' ⟨g, he, hE, hg, c, hgs⟩
  exact ⟨g, he, lv, mv, h.upd2 (i := 5) (j := 1) (blkR g 118 (rrdCells rf ⟨t, 14, v, 0, 0, false, 0⟩ 0)) (rfeedR B rp vb rf mv s2 { F2 with receiving := true }) rfl rfl (by decide) c (fun k _ e => .inr (.inr e)) hg hE (fun k hk => .inr (by rw [show k = g from hk]; exact hgs)) (fun k hk => hk)⟩
theorem FsA.rpush_arg (h : FsA B p cb fb rp vb rf s F P R s2 F2 P2 R2 w0 w) (t v : Int) (hb : ¬ (0 ≤ t ∧ t < 16) ∨ v = 0 ∨ v ≤ F2.last) : Calls Try.prog 38 #[.pointer (some ⟨rf, 0, none⟩), .int .i64 t, .int .u64 v] w fun e w' => e = .returned (.tuple #[.pointer none, .int .i64 2]) ∧ w = w' := by
  obtain ⟨lv, mv, h⟩ := h
  exact rfpush_arg B rp vb rf mv s2 F2 w (h.each 1 _ rfl) t v hb
theorem FsA.rpush_busy (h : FsA B p cb fb rp vb rf s F P R s2 F2 P2 R2 w0 w) (t v : Int) (ht : 0 ≤ t ∧ t < 16) (hv0 : v ≠ 0) (hv : F2.last < v) (hp : F2.pushing = true) : Calls Try.prog 38 #[.pointer (some ⟨rf, 0, none⟩), .int .i64 t, .int .u64 v] w fun e w' => e = .returned (.tuple #[.pointer none, .int .i64 8]) ∧ w = w' := by
  obtain ⟨lv, mv, h⟩ := h
  exact rfpush_busy B rp vb rf mv s2 F2 w (h.each 1 _ rfl) t v ht hv0 hv hp
theorem FsA.rrecv_arg (h : FsA B p cb fb rp vb rf s F P R s2 F2 P2 R2 w0 w) (t v : Int) (hb : ¬ (0 ≤ t ∧ t < 16)) : Calls Try.prog 39 #[.pointer (some ⟨rf, 0, none⟩), .int .i64 t, .int .u64 v] w fun e w' => e = .returned (.tuple #[.pointer none, .int .i64 2]) ∧ w = w' := by
  obtain ⟨lv, mv, h⟩ := h
  exact rfrecv_arg B rp vb rf mv s2 F2 w (h.each 1 _ rfl) t v hb
theorem FsA.rrecv_busy (h : FsA B p cb fb rp vb rf s F P R s2 F2 P2 R2 w0 w) (t v : Int) (ht : 0 ≤ t ∧ t < 16) (hp : F2.receiving = true) : Calls Try.prog 39 #[.pointer (some ⟨rf, 0, none⟩), .int .i64 t, .int .u64 v] w fun e w' => e = .returned (.tuple #[.pointer none, .int .i64 8]) ∧ w = w' := by
  obtain ⟨lv, mv, h⟩ := h
  exact rfrecv_busy B rp vb rf mv s2 F2 w (h.each 1 _ rfl) t v ht hp
theorem FsA.push_arg (h : FsA B p cb fb rp vb rf s F P R s2 F2 P2 R2 w0 w) (t v : Int) (hb : ¬ (0 ≤ t ∧ t < 16) ∨ v ≤ F.last) : Calls Try.prog 30 #[.pointer (some ⟨fb, 0, none⟩), .int .i64 t, .int .u64 v] w fun e w' => e = .returned (.tuple #[.pointer none, .int .i64 2]) ∧ w = w' := by
  obtain ⟨lv, mv, h⟩ := h
  exact fpush_arg B p cb fb lv s F w (h.each 0 _ rfl) t v hb
theorem FsA.push_busy (h : FsA B p cb fb rp vb rf s F P R s2 F2 P2 R2 w0 w) (t v : Int) (ht : 0 ≤ t ∧ t < 16) (hv : F.last < v) (hp : F.pushing = true) : Calls Try.prog 30 #[.pointer (some ⟨fb, 0, none⟩), .int .i64 t, .int .u64 v] w fun e w' => e = .returned (.tuple #[.pointer none, .int .i64 8]) ∧ w = w' := by
  obtain ⟨lv, mv, h⟩ := h
  have hF : FeedM B w p cb fb lv s F := h.each 0 _ rfl
  have f5 := hF.c5
  have f6 := hF.c6
  rw [hp] at f6
  have d1 : decide (t < 0) = false := decide_eq_false (by omega)
  have d2 : decide (16 ≤ t) = false := decide_eq_false (by omega)
  have d3 : decide (v ≤ F.last) = false := decide_eq_false (by omega)
  clear hp hv
  clear h hF
  go_enter Try.func30, Try.ntmps30
  go_wp2_with fail
  go_ret2
  exact ⟨rfl, rfl⟩
theorem FsA.recv_busy (h : FsA B p cb fb rp vb rf s F P R s2 F2 P2 R2 w0 w) (t v : Int) (ht : 0 ≤ t ∧ t < 16) (hp : F.receiving = true) : Calls Try.prog 31 #[.pointer (some ⟨fb, 0, none⟩), .int .i64 t, .int .u64 v] w fun e w' => e = .returned (.tuple #[.pointer none, .int .i64 8]) ∧ w = w' := by
  obtain ⟨lv, mv, h⟩ := h
  have hF : FeedM B w p cb fb lv s F := h.each 0 _ rfl
  have f7 := hF.c7
  rw [hp] at f7
  have d1 : decide (t < 0) = false := decide_eq_false (by omega)
  have d2 : decide (16 ≤ t) = false := decide_eq_false (by omega)
  clear hp
  clear h hF
  go_enter Try.func31, Try.ntmps31
  go_wp2_with fail
  go_ret2
  exact ⟨rfl, rfl⟩
theorem FsA.recv_arg (h : FsA B p cb fb rp vb rf s F P R s2 F2 P2 R2 w0 w) (t v : Int) (hb : ¬ (0 ≤ t ∧ t < 16)) : Calls Try.prog 31 #[.pointer (some ⟨fb, 0, none⟩), .int .i64 t, .int .u64 v] w fun e w' => e = .returned (.tuple #[.pointer none, .int .i64 2]) ∧ w = w' := by
  obtain ⟨lv, mv, h⟩ := h
  clear h
  by_cases h1 : t < 0
  · have d1 : decide (t < 0) = true := decide_eq_true h1
    go_enter Try.func31, Try.ntmps31
    go_wp2_with fail
    go_ret2
    exact ⟨rfl, rfl⟩
  · have d1 : decide (t < 0) = false := decide_eq_false h1
    have d2 : decide (16 ≤ t) = true := decide_eq_true (by omega)
    go_enter Try.func31, Try.ntmps31
    go_wp2_with fail
    go_ret2
    exact ⟨rfl, rfl⟩
set_option maxRecDepth 100000 in
theorem fpstep0 (fb g : Nat) (q : Pd) (hph : q.ph = 0) (w : World) (hq : Blk w g 106 (pdCells fb q)) : Calls Try.prog 32 #[.pointer (some ⟨g, 0, none⟩)] w fun e w' => e = .returned (.tuple #[.int .u8 0, .bool true]) ∧ ∃ n, w' = w.drewN n := by
  have a2 : w.cell? ⟨g, 2, none⟩ = some (.int .u8 q.ph) := hq.cell 2
  have b0 : (q.ph == 0) = true := by rw [beq_iff_eq]; exact hph
  rw [hph] at a2
  clear hq hph
  go_enter Try.func32, Try.ntmps32
  go_wp2_with fail
  first | (go_quiet (fail); go_wp2_with fail) | skip
  first | go_ret2 | go_ret
  exact ⟨rfl, by first | exact ⟨_, rfl⟩ | exact ⟨0, rfl⟩⟩
set_option maxRecDepth 100000 in
theorem frstep0 (fb g : Nat) (r : Rd) (hph : r.ph = 0) (w : World) (hq : Blk w g 108 (rdCells fb r)) : Calls Try.prog 33 #[.pointer (some ⟨g, 0, none⟩)] w fun e w' => e = .returned (.tuple #[.int .u8 0, .bool true]) ∧ ∃ n, w' = w.drewN n := by
  have a2 : w.cell? ⟨g, 2, none⟩ = some (.int .u8 r.ph) := hq.cell 2
  have b0 : (r.ph == 0) = true := by rw [beq_iff_eq]; exact hph
  rw [hph] at a2
  clear hq hph
  go_enter Try.func33, Try.ntmps33
  go_wp2_with fail
  first | (go_quiet (fail); go_wp2_with fail) | skip
  first | go_ret2 | go_ret
  exact ⟨rfl, by first | exact ⟨_, rfl⟩ | exact ⟨0, rfl⟩⟩
set_option maxRecDepth 100000 in
theorem rnil_pstep (w : World) : Calls Try.prog 40 #[.pointer none] w fun e w' => e = .returned (.tuple #[.int .u8 0, .bool false]) ∧ w = w' := by
  go_enter Try.func40, Try.ntmps40
  go_wp2_with fail
  go_ret2
  exact ⟨rfl, rfl⟩
set_option maxRecDepth 100000 in
theorem rnil_rstep (w : World) : Calls Try.prog 41 #[.pointer none] w fun e w' => e = .returned (.tuple #[.int .u8 0, .bool false]) ∧ w = w' := by
  go_enter Try.func41, Try.ntmps41
  go_wp2_with fail
  go_ret2
  exact ⟨rfl, rfl⟩
set_option maxRecDepth 100000 in
theorem rnil_pnext (w : World) : Calls Try.prog 44 #[.pointer none] w fun e w' => e = .returned (.int .u8 0) ∧ w = w' := by
  go_enter Try.func44, Try.ntmps44
  go_wp2_with fail
  go_ret
  exact ⟨rfl, rfl⟩
set_option maxRecDepth 100000 in
theorem rnil_rnext (w : World) : Calls Try.prog 45 #[.pointer none] w fun e w' => e = .returned (.int .u8 0) ∧ w = w' := by
  go_enter Try.func45, Try.ntmps45
  go_wp2_with fail
  go_ret
  exact ⟨rfl, rfl⟩
set_option maxRecDepth 100000 in
theorem rnil_res (w : World) : Calls Try.prog 43 #[.pointer none] w fun e w' => e = .returned (.tuple #[.int .u64 0, .bool false, .int .i64 1]) ∧ w = w' := by
  go_enter Try.func43, Try.ntmps43
  go_wp2_with fail
  go_ret3
  exact ⟨rfl, rfl⟩
theorem fpnext (fb g : Nat) (q : Pd) (w : World) (hq : Blk w g 106 (pdCells fb q)) : Calls Try.prog 36 #[.pointer (some ⟨g, 0, none⟩)] w fun e w' => e = .returned (.int .u8 q.ph) ∧ w = w' := by
  have a2 : w.cell? ⟨g, 2, none⟩ = some (.int .u8 q.ph) := hq.cell 2
  clear hq
  go_enter Try.func36, Try.ntmps36
  go_wp2_with fail
  go_ret
  exact ⟨rfl, rfl⟩
theorem frnext (fb g : Nat) (q : Rd) (w : World) (hq : Blk w g 108 (rdCells fb q)) : Calls Try.prog 37 #[.pointer (some ⟨g, 0, none⟩)] w fun e w' => e = .returned (.int .u8 q.ph) ∧ w = w' := by
  have a2 : w.cell? ⟨g, 2, none⟩ = some (.int .u8 q.ph) := hq.cell 2
  clear hq
  go_enter Try.func37, Try.ntmps37
  go_wp2_with fail
  go_ret
  exact ⟨rfl, rfl⟩
theorem fres_busy (fb g : Nat) (r : Rd) (w : World) (hq : Blk w g 108 (rdCells fb r)) (h0 : r.ph ≠ 0) : Calls Try.prog 34 #[.pointer (some ⟨g, 0, none⟩)] w fun e w' => e = .returned (.tuple #[.int .u64 0, .bool false, .int .i64 8]) ∧ w = w' := by
  have a2 : w.cell? ⟨g, 2, none⟩ = some (.int .u8 r.ph) := hq.cell 2
  have b0 : (r.ph != 0) = true := by rw [bne_iff_ne]; exact h0
  clear hq h0
  go_enter Try.func34, Try.ntmps34
  go_wp2_with fail
  go_ret3
  exact ⟨rfl, rfl⟩
theorem FsA.pstep (h : FsA B p cb fb rp vb rf s F P R s2 F2 P2 R2 w0 w) (hK : FsK n M s F P R)  : Calls Try.prog 32 #[pV P] w fun e w' => e = .returned (.tuple #[.int .u8 (pOut s F P).2.2.2.1, .bool (pOut s F P).2.2.2.2]) ∧ FsA B p cb fb rp vb rf (pOut s F P).1 (pOut s F P).2.1 (pOut s F P).2.2.1 R s2 F2 P2 R2 w0 w' := by
  obtain ⟨lv, mv, h⟩ := h
  match P, hK, h with
  | none, hK, h =>
    refine (nil_pstep w).mono ?_
    rintro e w' ⟨he, rfl⟩
    exact ⟨he, lv, mv, h⟩
  | some (g, g', q), hK, h =>
    have hP := hK.pi g g' q rfl
    by_cases h0 : q.ph = 0
    · have e0 : pOut s F (some (g, g', q)) = (s, F, some (g, g', q), 0, true) := if_pos h0
      rw [e0]
      refine (fpstep0 fb g q h0 w (h.each 2 _ rfl)).mono ?_
      rintro e w' ⟨he, m, rfl⟩
      exact ⟨he, lv, mv, h.drewN m⟩
    · have e0 : pOut s F (some (g, g', q)) = ((Go.Proofs.Ytonjbofdmmnpdaa.pstep s F q).1, F.psh ((Go.Proofs.Ytonjbofdmmnpdaa.pstep s F q).2.1 != 0), some (g, g', q.next (Go.Proofs.Ytonjbofdmmnpdaa.pstep s F q)), q.ph, (Go.Proofs.Ytonjbofdmmnpdaa.pstep s F q).2.1 == 0) := if_neg h0
      rw [e0]
      refine (pstep_any B p cb fb g lv s F q w (h.each 0 _ rfl) (h.each 2 _ rfl) hP.t (by have := hK.fi.lg; have := hK.hM; omega) h.bz hP.p (hP.ph.resolve_left h0)).mono ?_
      rintro e w' ⟨he, lv', hE, hg, c, hf⟩
      exact ⟨he, lv', mv, h.upd2 (i := 0) (j := 2) (feedR B p cb fb lv' (Go.Proofs.Ytonjbofdmmnpdaa.pstep s F q).1 (F.psh ((Go.Proofs.Ytonjbofdmmnpdaa.pstep s F q).2.1 != 0))) (blkR g 106 (pdCells fb (q.next (Go.Proofs.Ytonjbofdmmnpdaa.pstep s F q)))) rfl rfl (by decide) c (fun k _ e => ffp3 e) hE hg (fun k hk => ffp_new hf hk) (fun k hk => hk)⟩
theorem FsA.rpstep (h : FsA B p cb fb rp vb rf s F P R s2 F2 P2 R2 w0 w) (hK : FsK n M s2 F2 P2 R2)  : Calls Try.prog 40 #[rpV P2] w fun e w' => e = .returned (.tuple #[.int .u8 (pOut s2 F2 P2).2.2.2.1, .bool (pOut s2 F2 P2).2.2.2.2]) ∧ FsA B p cb fb rp vb rf s F P R (pOut s2 F2 P2).1 (pOut s2 F2 P2).2.1 (pOut s2 F2 P2).2.2.1 R2 w0 w' := by
  obtain ⟨lv, mv, h⟩ := h
  match P2, hK, h with
  | none, hK, h =>
    refine (rnil_pstep w).mono ?_
    rintro e w' ⟨he, rfl⟩
    exact ⟨he, lv, mv, h⟩
  | some (g, g', q), hK, h =>
    have hP := hK.pi g g' q rfl
    have hH : 0 ≤ cHead s2 F2 ∧ cHead s2 F2 ≤ cTail s2 F2 ∧ cTail s2 F2 ≤ 1000000 := ⟨hK.fi.h, hK.fi.ht, by have := hK.fi.tM; have := hK.hM; omega⟩
    by_cases h0 : q.ph = 0
    · have e0 : pOut s2 F2 (some (g, g', q)) = (s2, F2, some (g, g', q), 0, true) := if_pos h0
      rw [e0]
      refine (rps0 B rp vb rf g' mv s2 F2 q w (h.each 1 _ rfl) (h.each 3 _ rfl) hP.t (by have := hK.fi.lg; have := hK.hM; omega) h.bz hH h0).mono ?_
      rintro e w' ⟨he, m, rfl⟩
      exact ⟨he, lv, mv, h.drewN m⟩
    · have e0 : pOut s2 F2 (some (g, g', q)) = ((Go.Proofs.Ytonjbofdmmnpdaa.pstep s2 F2 q).1, F2.psh ((Go.Proofs.Ytonjbofdmmnpdaa.pstep s2 F2 q).2.1 != 0), some (g, g', q.next (Go.Proofs.Ytonjbofdmmnpdaa.pstep s2 F2 q)), q.ph, (Go.Proofs.Ytonjbofdmmnpdaa.pstep s2 F2 q).2.1 == 0) := if_neg h0
      rw [e0]
      refine (rpstep_any B rp vb rf g' mv s2 F2 q w (h.each 1 _ rfl) (h.each 3 _ rfl) hP.t (by have := hK.fi.lg; have := hK.hM; omega) h.bz hH (hP.ph.resolve_left h0)).mono ?_
      rintro e w' ⟨he, mv', hE, hg, c, hf⟩
      exact ⟨he, lv, mv', h.upd2 (i := 1) (j := 3) (rfeedR B rp vb rf mv' (Go.Proofs.Ytonjbofdmmnpdaa.pstep s2 F2 q).1 (F2.psh ((Go.Proofs.Ytonjbofdmmnpdaa.pstep s2 F2 q).2.1 != 0))) (blkR g' 116 (rpdCells rf (q.next (Go.Proofs.Ytonjbofdmmnpdaa.pstep s2 F2 q)))) rfl rfl (by decide) c (fun k _ e => ffp3 e) hE hg (fun k hk => ffp_new hf hk) (fun k hk => hk)⟩
theorem FsA.rstep (h : FsA B p cb fb rp vb rf s F P R s2 F2 P2 R2 w0 w) (hK : FsK n M s F P R)  : Calls Try.prog 33 #[rV R] w fun e w' => e = .returned (.tuple #[.int .u8 (rOut s F R).2.2.2.1, .bool (rOut s F R).2.2.2.2]) ∧ FsA B p cb fb rp vb rf (rOut s F R).1 (rOut s F R).2.1 P (rOut s F R).2.2.1 s2 F2 P2 R2 w0 w' := by
  obtain ⟨lv, mv, h⟩ := h
  match R, hK, h with
  | none, hK, h =>
    refine (nil_rstep w).mono ?_
    rintro e w' ⟨he, rfl⟩
    exact ⟨he, lv, mv, h⟩
  | some (g, g', r, v), hK, h =>
    have hP := hK.ri g g' r v rfl
    by_cases h0 : r.ph = 0
    · have e0 : rOut s F (some (g, g', r, v)) = (s, F, some (g, g', r, v), 0, true) := if_pos h0
      rw [e0]
      refine (frstep0 fb g r h0 w (h.each 4 _ rfl)).mono ?_
      rintro e w' ⟨he, m, rfl⟩
      exact ⟨he, lv, mv, h.drewN m⟩
    · have e0 : rOut s F (some (g, g', r, v)) = ((Go.Proofs.Ytonjbofdmmnpdaa.rstep s F r).1, F.rcv ((Go.Proofs.Ytonjbofdmmnpdaa.rstep s F r).2.ph != 0), some (g, g', (Go.Proofs.Ytonjbofdmmnpdaa.rstep s F r).2, rrv s F r v), r.ph, (Go.Proofs.Ytonjbofdmmnpdaa.rstep s F r).2.ph == 0) := if_neg h0
      rw [e0]
      refine (rstep_any B p cb fb g lv s F r w (h.each 0 _ rfl) (h.each 4 _ rfl) hP.t (by have := hK.fi.lg; have := hK.hM; omega) h.bz (hP.ph.resolve_left h0)).mono ?_
      rintro e w' ⟨he, lv', hE, hg, c, hf⟩
      exact ⟨he, lv', mv, h.upd2 (i := 0) (j := 4) (feedR B p cb fb lv' (Go.Proofs.Ytonjbofdmmnpdaa.rstep s F r).1 (F.rcv ((Go.Proofs.Ytonjbofdmmnpdaa.rstep s F r).2.ph != 0))) (blkR g 108 (rdCells fb (Go.Proofs.Ytonjbofdmmnpdaa.rstep s F r).2)) rfl rfl (by decide) c (fun k _ e => ffp3 e) hE hg (fun k hk => ffp_new hf hk) (fun k hk => hk)⟩
theorem FsA.rrstep (h : FsA B p cb fb rp vb rf s F P R s2 F2 P2 R2 w0 w) (hK : FsK n M s2 F2 P2 R2)  : Calls Try.prog 41 #[rrV R2] w fun e w' => e = .returned (.tuple #[.int .u8 (rOut s2 F2 R2).2.2.2.1, .bool (rOut s2 F2 R2).2.2.2.2]) ∧ FsA B p cb fb rp vb rf s F P R (rOut s2 F2 R2).1 (rOut s2 F2 R2).2.1 P2 (rOut s2 F2 R2).2.2.1 w0 w' := by
  obtain ⟨lv, mv, h⟩ := h
  match R2, hK, h with
  | none, hK, h =>
    refine (rnil_rstep w).mono ?_
    rintro e w' ⟨he, rfl⟩
    exact ⟨he, lv, mv, h⟩
  | some (g, g', r, v), hK, h =>
    have hP := hK.ri g g' r v rfl
    have hH : 0 ≤ cHead s2 F2 ∧ cHead s2 F2 ≤ cTail s2 F2 ∧ cTail s2 F2 ≤ 1000000 := ⟨hK.fi.h, hK.fi.ht, by have := hK.fi.tM; have := hK.hM; omega⟩
    by_cases h0 : r.ph = 0
    · have e0 : rOut s2 F2 (some (g, g', r, v)) = (s2, F2, some (g, g', r, v), 0, true) := if_pos h0
      rw [e0]
      refine (rrs0 B rp vb rf g' mv s2 F2 r v w (h.each 1 _ rfl) (h.each 5 _ rfl) hP.t (by have := hK.fi.lg; have := hK.hM; omega) h.bz hH h0).mono ?_
      rintro e w' ⟨he, m, rfl⟩
      exact ⟨he, lv, mv, h.drewN m⟩
    · have e0 : rOut s2 F2 (some (g, g', r, v)) = ((Go.Proofs.Ytonjbofdmmnpdaa.rstep s2 F2 r).1, F2.rcv ((Go.Proofs.Ytonjbofdmmnpdaa.rstep s2 F2 r).2.ph != 0), some (g, g', (Go.Proofs.Ytonjbofdmmnpdaa.rstep s2 F2 r).2, rrv s2 F2 r v), r.ph, (Go.Proofs.Ytonjbofdmmnpdaa.rstep s2 F2 r).2.ph == 0) := if_neg h0
      rw [e0]
      refine (rrstep_any B rp vb rf g' mv s2 F2 r v w (h.each 1 _ rfl) (h.each 5 _ rfl) hP.t (by have := hK.fi.lg; have := hK.hM; omega) h.bz hH (hP.ph.resolve_left h0) (fun e => hP.same (.inr e))).mono ?_
      rintro e w' ⟨he, mv', hE, hg, c, hf⟩
      exact ⟨he, lv, mv', h.upd2 (i := 1) (j := 5) (rfeedR B rp vb rf mv' (Go.Proofs.Ytonjbofdmmnpdaa.rstep s2 F2 r).1 (F2.rcv ((Go.Proofs.Ytonjbofdmmnpdaa.rstep s2 F2 r).2.ph != 0))) (blkR g' 118 (rrdCells rf (Go.Proofs.Ytonjbofdmmnpdaa.rstep s2 F2 r).2 (rrv s2 F2 r v))) rfl rfl (by decide) c (fun k _ e => ffp3 e) hE hg (fun k hk => ffp_new hf hk) (fun k hk => hk)⟩
theorem FsA.act (h : FsA B p cb fb rp vb rf s F P R s2 F2 P2 R2 w0 w) (hK : FsK n M s F P R) (t : Int) : Calls Try.prog 35 #[.pointer (some ⟨fb, 0, none⟩), .int .i64 t] w fun e w' => e = .returned (.int .i64 (aOut s F t).2) ∧ FsA B p cb fb rp vb rf (aOut s F t).1 F P R s2 F2 P2 R2 w0 w' := by
  obtain ⟨lv, mv, h⟩ := h
  unfold aOut
  by_cases ht : 0 ≤ t ∧ t < 16
  · rw [if_neg (fun e => e ht)]
    by_cases ha : cAct s F = 0
    · rw [if_neg (fun e => e ha)]
      refine (fact_ok B p cb fb lv s F w (h.each 0 _ rfl) t ht (by have := hK.fi.lg; have := hK.hM; omega) h.bz ha).mono ?_
      rintro e w' ⟨he, lv', hE, c, hf⟩
      exact ⟨he, lv', mv, h.upd (i := 0) (feedR B p cb fb lv' (s.store t F.first 1) F) rfl c (fun k _ e => .inl e) hE (fun k hk => ffp_new hf hk)⟩
    · rw [if_pos ha]
      refine (fact_have B p cb fb lv s F w (h.each 0 _ rfl) t ht ha).mono ?_
      rintro e w' ⟨he, rfl⟩
      exact ⟨he, lv, mv, h⟩
  · rw [if_pos ht]
    have h' := h
    have hF : FeedM B w p cb fb lv s F := h.each 0 _ rfl
    clear h hF
    by_cases h1 : t < 0
    · have d1 : decide (t < 0) = true := decide_eq_true h1
      go_enter Try.func35, Try.ntmps35
      go_wp2_with fail
      go_ret
      exact ⟨rfl, lv, mv, h'⟩
    · have d1 : decide (t < 0) = false := decide_eq_false h1
      have d2 : decide (16 ≤ t) = true := decide_eq_true (by omega)
      go_enter Try.func35, Try.ntmps35
      go_wp2_with fail
      go_ret
      exact ⟨rfl, lv, mv, h'⟩
theorem FsA.ract (h : FsA B p cb fb rp vb rf s F P R s2 F2 P2 R2 w0 w) (hK : FsK n M s2 F2 P2 R2) (t : Int) : Calls Try.prog 42 #[.pointer (some ⟨rf, 0, none⟩), .int .i64 t] w fun e w' => e = .returned (.int .i64 (aOut s2 F2 t).2) ∧ FsA B p cb fb rp vb rf s F P R (aOut s2 F2 t).1 F2 P2 R2 w0 w' := by
  obtain ⟨lv, mv, h⟩ := h
  unfold aOut
  by_cases ht : 0 ≤ t ∧ t < 16
  · rw [if_neg (fun e => e ht)]
    by_cases ha : cAct s2 F2 = 0
    · rw [if_neg (fun e => e ha)]
      refine (rfact_ok B rp vb rf mv s2 F2 w (h.each 1 _ rfl) t (by have := hK.fi.lg; have := hK.hM; omega) h.bz ht ha).mono ?_
      rintro e w' ⟨he, mv', hE, c, hf⟩
      exact ⟨he, lv, mv', h.upd (i := 1) (rfeedR B rp vb rf mv' (s2.store t F2.first 1) F2) rfl c (fun k _ e => .inl e) hE (fun k hk => ffp_new hf hk)⟩
    · rw [if_pos ha]
      refine (rfact_have B rp vb rf mv s2 F2 w (h.each 1 _ rfl) t ht ha).mono ?_
      rintro e w' ⟨he, m, rfl⟩
      exact ⟨he, lv, mv, h.drewN m⟩
  · rw [if_pos ht]
    refine (rfact_arg B rp vb rf mv s2 F2 w (h.each 1 _ rfl) t ht).mono ?_
    rintro e w' ⟨he, m, rfl⟩
    exact ⟨he, lv, mv, h.drewN m⟩
theorem FsA.pnext (h : FsA B p cb fb rp vb rf s F P R s2 F2 P2 R2 w0 w)  : Calls Try.prog 36 #[pV P] w fun e w' => e = .returned (.int .u8 (pPh P)) ∧ FsA B p cb fb rp vb rf s F P R s2 F2 P2 R2 w0 w' := by
  obtain ⟨lv, mv, h⟩ := h
  match P, h with
  | none, h =>
    refine (nil_pnext w).mono ?_
    rintro e w' ⟨he, rfl⟩
    exact ⟨he, lv, mv, h⟩
  | some (g, g', q), h =>
    refine (fpnext fb g q w (h.each 2 _ rfl)).mono ?_
    rintro e w' ⟨he, rfl⟩
    exact ⟨he, lv, mv, h⟩
theorem FsA.rpnext (h : FsA B p cb fb rp vb rf s F P R s2 F2 P2 R2 w0 w)  : Calls Try.prog 44 #[rpV P2] w fun e w' => e = .returned (.int .u8 (pPh P2)) ∧ FsA B p cb fb rp vb rf s F P R s2 F2 P2 R2 w0 w' := by
  obtain ⟨lv, mv, h⟩ := h
  match P2, h with
  | none, h =>
    refine (rnil_pnext w).mono ?_
    rintro e w' ⟨he, rfl⟩
    exact ⟨he, lv, mv, h⟩
  | some (g, g', q), h =>
    refine (rpnext_any rf g' w q (h.each 3 _ rfl)).mono ?_
    rintro e w' ⟨he, rfl⟩
    exact ⟨he, lv, mv, h⟩
theorem FsA.rnext (h : FsA B p cb fb rp vb rf s F P R s2 F2 P2 R2 w0 w)  : Calls Try.prog 37 #[rV R] w fun e w' => e = .returned (.int .u8 (rPh R)) ∧ FsA B p cb fb rp vb rf s F P R s2 F2 P2 R2 w0 w' := by
  obtain ⟨lv, mv, h⟩ := h
  match R, h with
  | none, h =>
    refine (nil_rnext w).mono ?_
    rintro e w' ⟨he, rfl⟩
    exact ⟨he, lv, mv, h⟩
  | some (g, g', q, v), h =>
    refine (frnext fb g q w (h.each 4 _ rfl)).mono ?_
    rintro e w' ⟨he, rfl⟩
    exact ⟨he, lv, mv, h⟩
theorem FsA.rrnext (h : FsA B p cb fb rp vb rf s F P R s2 F2 P2 R2 w0 w)  : Calls Try.prog 45 #[rrV R2] w fun e w' => e = .returned (.int .u8 (rPh R2)) ∧ FsA B p cb fb rp vb rf s F P R s2 F2 P2 R2 w0 w' := by
  obtain ⟨lv, mv, h⟩ := h
  match R2, h with
  | none, h =>
    refine (rnil_rnext w).mono ?_
    rintro e w' ⟨he, rfl⟩
    exact ⟨he, lv, mv, h⟩
  | some (g, g', q, v), h =>
    refine (rrnext_any rf g' w q v (h.each 5 _ rfl)).mono ?_
    rintro e w' ⟨he, rfl⟩
    exact ⟨he, lv, mv, h⟩
theorem FsA.res (h : FsA B p cb fb rp vb rf s F P R s2 F2 P2 R2 w0 w)  : Calls Try.prog 34 #[rV R] w fun e w' => e = .returned (.tuple #[.int .u64 (rOutc R).1, .bool (rOutc R).2.1, .int .i64 (rOutc R).2.2]) ∧ FsA B p cb fb rp vb rf s F P R s2 F2 P2 R2 w0 w' := by
  obtain ⟨lv, mv, h⟩ := h
  match R, h with
  | none, h =>
    refine (nil_res w).mono ?_
    rintro e w' ⟨he, rfl⟩
    exact ⟨he, lv, mv, h⟩
  | some (g, g', r, v), h =>
    by_cases h0 : r.ph = 0
    · have e0 : rOutc (some (g, g', r, v)) = (r.value, r.lagged, r.err) := if_pos h0
      rw [e0]
      refine (fres_any fb g r w (h.each 4 _ rfl) h0).mono ?_
      rintro e w' ⟨he, m, rfl⟩
      exact ⟨he, lv, mv, h.drewN m⟩
    · have e0 : rOutc (some (g, g', r, v)) = (0, false, 8) := if_neg h0
      rw [e0]
      refine (fres_busy fb g r w (h.each 4 _ rfl) h0).mono ?_
      rintro e w' ⟨he, rfl⟩
      exact ⟨he, lv, mv, h⟩
theorem FsA.rres (h : FsA B p cb fb rp vb rf s F P R s2 F2 P2 R2 w0 w) (hK : FsK n M s2 F2 P2 R2) : Calls Try.prog 43 #[rrV R2] w fun e w' => e = .returned (.tuple #[.int .u64 (rOutc R2).1, .bool (rOutc R2).2.1, .int .i64 (rOutc R2).2.2]) ∧ FsA B p cb fb rp vb rf s F P R s2 F2 P2 R2 w0 w' := by
  obtain ⟨lv, mv, h⟩ := h
  match R2, hK, h with
  | none, hK, h =>
    refine (rnil_res w).mono ?_
    rintro e w' ⟨he, rfl⟩
    exact ⟨he, lv, mv, h⟩
  | some (g, g', r, v), hK, h =>
    refine (rrres_any rf g' w r v (h.each 5 _ rfl)).mono ?_
    rintro e w' ⟨he, m, rfl⟩
    by_cases h0 : r.ph = 0
    · have e0 : rOutc (some (g, g', r, v)) = (r.value, r.lagged, r.err) := if_pos h0
      rw [e0]
      rw [if_pos h0, (hK.ri g g' r v rfl).same (.inl h0)] at he
      exact ⟨he, lv, mv, h.drewN m⟩
    · have e0 : rOutc (some (g, g', r, v)) = (0, false, 8) := if_neg h0
      rw [e0]
      rw [if_neg h0] at he
      exact ⟨he, lv, mv, h.drewN m⟩
theorem FsA.active (h : FsA B p cb fb rp vb rf s F P R s2 F2 P2 R2 w0 w)  : Calls Try.prog 27 #[.pointer (some ⟨fb, 0, none⟩)] w fun e w' => e = .returned (.bool (cAct s F != 0)) ∧ FsA B p cb fb rp vb rf s F P R s2 F2 P2 R2 w0 w' := by
  obtain ⟨lv, mv, h⟩ := h
  refine (fact_any B p cb fb lv s F w (h.each 0 _ rfl)).mono ?_
  rintro e w' ⟨he, rfl⟩
  exact ⟨he, lv, mv, h⟩
theorem FsA.ractive (h : FsA B p cb fb rp vb rf s F P R s2 F2 P2 R2 w0 w)  : Calls Try.prog 46 #[.pointer (some ⟨rf, 0, none⟩)] w fun e w' => e = .returned (.bool (cAct s2 F2 != 0)) ∧ FsA B p cb fb rp vb rf s F P R s2 F2 P2 R2 w0 w' := by
  obtain ⟨lv, mv, h⟩ := h
  refine (rfact_any B rp vb rf mv s2 F2 w (h.each 1 _ rfl)).mono ?_
  rintro e w' ⟨he, m, rfl⟩
  exact ⟨he, lv, mv, h.drewN m⟩
theorem FsA.lag (h : FsA B p cb fb rp vb rf s F P R s2 F2 P2 R2 w0 w)  : Calls Try.prog 29 #[.pointer (some ⟨fb, 0, none⟩)] w fun e w' => e = .returned (.int .u64 (cLag s F)) ∧ FsA B p cb fb rp vb rf s F P R s2 F2 P2 R2 w0 w' := by
  obtain ⟨lv, mv, h⟩ := h
  refine (flag_any B p cb fb lv s F w (h.each 0 _ rfl)).mono ?_
  rintro e w' ⟨he, rfl⟩
  exact ⟨he, lv, mv, h⟩
theorem FsA.rlag (h : FsA B p cb fb rp vb rf s F P R s2 F2 P2 R2 w0 w)  : Calls Try.prog 47 #[.pointer (some ⟨rf, 0, none⟩)] w fun e w' => e = .returned (.int .u64 (cLag s2 F2)) ∧ FsA B p cb fb rp vb rf s F P R s2 F2 P2 R2 w0 w' := by
  obtain ⟨lv, mv, h⟩ := h
  refine (rflag_any B rp vb rf mv s2 F2 w (h.each 1 _ rfl)).mono ?_
  rintro e w' ⟨he, m, rfl⟩
  exact ⟨he, lv, mv, h.drewN m⟩
theorem FsA.list (h : FsA B p cb fb rp vb rf s F P R s2 F2 P2 R2 w0 w) (hK : FsK n M s F P R)  : Calls Try.prog 28 #[.pointer (some ⟨fb, 0, none⟩)] w fun e w' => ∃ v, e = .returned v ∧ w'.ownsRow w.heap.size 35 1 v (flist s F).length ((flist s F).map (Value.int .u64)) ∧ FsA B p cb fb rp vb rf s F P R s2 F2 P2 R2 w0 w' := by
  obtain ⟨lv, mv, h⟩ := h
  obtain ⟨H, hH⟩ := Int.eq_ofNat_of_zero_le hK.fi.h
  obtain ⟨T, hT⟩ := Int.eq_ofNat_of_zero_le (Int.le_trans hK.fi.h hK.fi.ht)
  have h1 := hK.fi.ht
  have h2 := hK.fi.tM
  have h3 := hK.hM
  rw [hT] at h2
  rw [hH, hT] at h1
  refine (flist_any B p cb fb lv s F w (h.each 0 _ rfl) H T hH hT (by omega) (by omega)).mono ?_
  rintro e w' ⟨v, he, hr, c⟩
  exact ⟨v, he, hr, lv, mv, h.keep c⟩
theorem FsA.rlist (h : FsA B p cb fb rp vb rf s F P R s2 F2 P2 R2 w0 w) (hK : FsK n M s2 F2 P2 R2) : Calls Try.prog 49 #[.pointer (some ⟨rf, 0, none⟩)] w fun e w' => ∃ v, e = .returned v ∧ w'.ownsRow w.heap.size 35 1 v (flist s2 F2).length ((flist s2 F2).map (Value.int .u64)) ∧ Ch (fun _ => False) w w' := by
  obtain ⟨lv, mv, h⟩ := h
  refine (rflist_any B rp vb rf mv s2 F2 w (h.each 1 _ rfl) hK.fi.h hK.fi.ht (by have := hK.fi.tM; have := hK.hM; omega)).mono ?_
  rintro e w' ⟨v, he, hr, c⟩
  exact ⟨v, he, hr, c⟩
end
/-- What the events keep. -/
theorem FsK.mono {n M M' : Nat} {s : BS} {F : Fd} {P : PO} {R : RO} (h : FsK n M s F P R) (h1 : M ≤ M') (h2 : M' ≤ 500000) : FsK n M' s F P R := { h with fi := h.fi.mono h1, hM := h2 }
theorem FsK.pst {n M : Nat} {s : BS} {F : Fd} {P : PO} {R : RO} (h : FsK n M s F P R) (hM : M + 1 ≤ 500000) : FsK n (M + 1) (pOut s F P).1 (pOut s F P).2.1 (pOut s F P).2.2.1 R := by
  match P, h with
  | none, h => exact h.mono (by omega) hM
  | some (g, g', q), h =>
    by_cases h0 : q.ph = 0
    · have e0 : pOut s F (some (g, g', q)) = (s, F, some (g, g', q), 0, true) := if_pos h0
      rw [e0]
      exact h.mono (by omega) hM
    · have e0 : pOut s F (some (g, g', q)) = ((pstep s F q).1, F.psh ((pstep s F q).2.1 != 0), some (g, g', q.next (pstep s F q)), q.ph, (pstep s F q).2.1 == 0) := if_neg h0
      rw [e0]
      obtain ⟨a, b, c, d⟩ := pd_inv h.fi (h.pi g g' q rfl) h0 h.hM (by have := h.n6; omega)
      refine ⟨⟨a.f1, a.fn, a.len, a.lg, a.h, a.ht, a.tn, a.tM, a.last⟩, hM, h.n1, h.n6, rfl, h.rb, fun _ _ _ e => ?_, fun x y r v e => ?_⟩
      · injection e with e
        injection e with e1 e
        injection e with e2 e3
        subst e3
        exact ⟨b.t, b.p, b.ph, b.room⟩
      · have k := (h.ri x y r v e).keep (s' := (pstep s F q).1) c d
        exact ⟨k.t, k.ph, k.item, k.same, k.zero⟩
theorem FsK.rst {n M : Nat} {s : BS} {F : Fd} {P : PO} {R : RO} (h : FsK n M s F P R) (hM : M + 1 ≤ 500000) : FsK n (M + 1) (rOut s F R).1 (rOut s F R).2.1 P (rOut s F R).2.2.1 := by
  match R, h with
  | none, h => exact h.mono (by omega) hM
  | some (g, g', r, v), h =>
    by_cases h0 : r.ph = 0
    · have e0 : rOut s F (some (g, g', r, v)) = (s, F, some (g, g', r, v), 0, true) := if_pos h0
      rw [e0]
      exact h.mono (by omega) hM
    · have e0 : rOut s F (some (g, g', r, v)) = ((rstep s F r).1, F.rcv ((rstep s F r).2.ph != 0), some (g, g', (rstep s F r).2, rrv s F r v), r.ph, (rstep s F r).2.ph == 0) := if_neg h0
      rw [e0]
      obtain ⟨a, b, c, d⟩ := rd_inv h.fi (h.ri g g' r v rfl) h0 h.hM (by have := h.n6; omega)
      refine ⟨⟨a.f1, a.fn, a.len, a.lg, a.h, a.ht, a.tn, a.tM, a.last⟩, hM, h.n1, h.n6, h.pb, rfl, fun x y q e => ?_, fun _ _ _ _ e => ?_⟩
      · have k := (h.pi x y q e).keep (s' := (rstep s F r).1) c d
        exact ⟨k.t, k.p, k.ph, k.room⟩
      · injection e with e
        injection e with e1 e
        injection e with e2 e
        injection e with e3 e4
        subst e3 e4
        exact ⟨b.t, b.ph, b.item, b.same, b.zero⟩
theorem FsK.act {n M : Nat} {s : BS} {F : Fd} {P : PO} {R : RO} (h : FsK n M s F P R) (hM : M + 1 ≤ 500000) (t : Int) : FsK n (M + 1) (aOut s F t).1 F P R := by
  unfold aOut
  split
  · exact h.mono (by omega) hM
  · split
    · exact h.mono (by omega) hM
    · obtain ⟨a, c, d⟩ := h.fi.off (s' := s.store t F.first 1) (c := (F.first : Int).toNat) rfl (by have := h.fi.f1; omega) (by have := h.fi.f1; omega) (store_lg ..)
      exact ⟨a, hM, h.n1, h.n6, h.pb, h.rb, fun x y q e => (h.pi x y q e).keep (by show _ ≤ cHead (s.store t F.first 1) F; rw [c]; omega) d, fun x y r v e => (h.ri x y r v e).keep c (by show _ ≤ cTail (s.store t F.first 1) F; rw [d]; omega)⟩
theorem FsK.push {n M : Nat} {s : BS} {F : Fd} {P : PO} {R : RO} (h : FsK n M s F P R) {t v : Int} (g g' : Nat) (ht : 0 ≤ t ∧ t < 16) (hv : 0 ≤ v ∧ v < 18446744073709551616) : FsK n M s { F with last := v, pushing := true } (some (g, g', ⟨t, 26, v, 0⟩)) R :=
  ⟨⟨h.fi.f1, h.fi.fn, h.fi.len, h.fi.lg, h.fi.h, h.fi.ht, h.fi.tn, h.fi.tM, hv.1⟩, h.hM, h.n1, h.n6, rfl, h.rb, fun _ _ _ e => by
    injection e with e
    injection e with e1 e
    injection e with e2 e3
    subst e3
    exact ⟨ht, hv, .inr (.inl rfl), fun hh => by rcases hh with hh | hh <;> exact absurd (show (26 : Int) = _ from hh) (by decide)⟩, fun x y r w e => by
    have k := h.ri x y r w e
    exact ⟨k.t, k.ph, k.item, k.same, k.zero⟩⟩
theorem FsK.recv {n M : Nat} {s : BS} {F : Fd} {P : PO} {R : RO} (h : FsK n M s F P R) {t v : Int} (g g' : Nat) (ht : 0 ≤ t ∧ t < 16) : FsK n M s { F with receiving := true } P (some (g, g', ⟨t, 14, v, 0, 0, false, 0⟩, 0)) :=
  ⟨⟨h.fi.f1, h.fi.fn, h.fi.len, h.fi.lg, h.fi.h, h.fi.ht, h.fi.tn, h.fi.tM, h.fi.last⟩, h.hM, h.n1, h.n6, h.pb, rfl, fun x y q e => by
    have k := h.pi x y q e
    exact ⟨k.t, k.p, k.ph, k.room⟩, fun _ _ _ _ e => by
    injection e with e
    injection e with e1 e
    injection e with e2 e
    injection e with e3 e4
    subst e3 e4
    exact ⟨ht, .inr (.inl rfl), fun hh => by rcases hh with hh | hh <;> exact absurd (show (14 : Int) = _ from hh) (by decide), fun hh => by rcases hh with hh | hh <;> exact absurd (show (14 : Int) = _ from hh) (by decide), fun _ => rfl⟩⟩
end Go.Proofs.Ytonjbofdmmnpdaa
