/- QueueExamples: the memory, one contract per call; nil objects. -/
import Derived.Test.YtpkjjlahmjijnaaQR
import Derived.Test.YtpkjjlahmjijnaaQNewA
namespace Go.Proofs.Ytpkjjlahmjijnaa
open Go.RowKit
set_option linter.unusedVariables false
set_option linter.unusedSimpArgs false
set_option linter.unusedSectionVars false

/-- The things of the examples. -/
def exqL (B p cb qb : Nat) (lv : Value) (s : BS) (gq : Option (Nat × Pl)) (gp : List (Nat × Pu)) : List Res := queueR B p cb qb lv s (lawQ 1) (pullV gq) :: pullR qb gq :: gp.map (pushR qb)
def ExQ (B p cb qb : Nat) (s : BS) (gq : Option (Nat × Pl)) (gp : List (Nat × Pu)) (w0 w : World) : Prop := ∃ lv, Mem B w0 (exqL B p cb qb lv s gq gp) w
section
variable {B p cb qb k : Nat} {s : BS} {gq : Option (Nat × Pl)} {gp : List (Nat × Pu)} {w0 w w' : World}
theorem fp_newQ {v v' : Value} {W : World} (hf : Fresh W v v') {k : Nat} (h : FP p cb v' k ∨ k = qb) : (FP p cb v k ∨ k = qb) ∨ W.heap.size ≤ k := by
  rcases h with (e | e | e) | e
  · exact .inl (.inl (.inl e))
  · exact .inl (.inl (.inr (.inl e)))
  · rcases hf with e' | e'
    · exact .inl (.inl (.inr (.inr (by rw [← e']; exact e))))
    · exact .inr (e' k e)
  · exact .inl (.inr e)
theorem ExQ.keep (h : ExQ B p cb qb s gq gp w0 w) (c : Ch (fun _ => False) w w') : ExQ B p cb qb s gq gp w0 w' := by obtain ⟨lv, h⟩ := h; exact ⟨lv, h.keep c⟩
theorem ExQ.drewN (h : ExQ B p cb qb s gq gp w0 w) (m : Nat) : ExQ B p cb qb s gq gp w0 (w.drewN m) := h.keep ((Ch.refl _ w).drewN m)
theorem ExQ.bel (h : ExQ B p cb qb s gq gp w0 w) : Below B w0 w := by obtain ⟨_, h⟩ := h; exact h.bel
theorem ExQ.pushB (h : ExQ B p cb qb s gq gp w0 w) {g : Nat} {q : Pu} (hk : gp[k]? = some (g, q)) : Blk w g 105 (puCells qb q) := by
  obtain ⟨lv, h⟩ := h
  exact h.each (k + 2) (pushR qb (g, q)) (by simp [exqL, hk])
theorem ExQ.pullB {g : Nat} {q : Pl} (h : ExQ B p cb qb s (some (g, q)) gp w0 w) : Blk w g 109 (plCells qb q) := by
  obtain ⟨lv, h⟩ := h
  exact h.each 1 _ rfl
theorem ExQ.push (h : ExQ B p cb qb s gq gp w0 w) (t v : Nat) (ht : t < 16) (hv : (v : Int) ≠ 0) : Calls Try.prog 20 #[.pointer (some ⟨qb, 0, none⟩), .int .i64 t, .int .u64 v] w fun e w' =>
    ∃ g, e = .returned (.tuple #[.pointer (some ⟨g, 0, none⟩), .int .i64 0]) ∧ ExQ B p cb qb s gq (gp ++ [(g, ⟨t, v, 0, 0, 4, 0⟩)]) w0 w' := by
  obtain ⟨lv, h⟩ := h
  refine (qpush_ok qb w (t : Int) (v : Int) (by omega) hv).mono ?_
  rintro e' w' ⟨g, he, hg, c, hgs⟩
  refine ⟨g, he, lv, ?_⟩
  have t := h.add (pushR qb (g, ⟨t, v, 0, 0, 4, 0⟩)) c hg (fun k hk => by rw [show k = g from hk]; exact hgs)
  simpa [exqL] using t
theorem ExQ.push_bad (t v : Int) (hb : t < 0 ∨ 16 ≤ t ∨ v = 0) (w : World) : Calls Try.prog 20 #[.pointer (some ⟨qb, 0, none⟩), .int .i64 t, .int .u64 v] w fun e w' => e = .returned (.tuple #[.pointer none, .int .i64 2]) ∧ w = w' := qpush_bad qb w t v hb
theorem ExQ.ustep (h : ExQ B p cb qb s gq gp w0 w) (hl : s.lg.length < 900) {g : Nat} {q : Pu} (hp : gp[k]? = some (g, q)) (ht : 0 ≤ q.t ∧ q.t < 16) (hv : 0 ≤ q.v ∧ q.v < 18446744073709551616) (hfr : 0 ≤ q.fr ∧ q.fr < 18446744073709551616) (hph : q.ph = 0 ∨ q.ph = 4 ∨ q.ph = 5 ∨ q.ph = 6 ∨ q.ph = 7) :
    Calls Try.prog 28 #[.pointer (some ⟨g, 0, none⟩)] w fun e w' =>
    e = .returned (.tuple #[.int .u8 q.ph, .bool ((pustep s (lawQ 1) q).2.ph == 0)]) ∧ ExQ B p cb qb (pustep s (lawQ 1) q).1 gq (gp.set k (g, (pustep s (lawQ 1) q).2)) w0 w' := by
  have hB := h.pushB hp
  obtain ⟨lv, h⟩ := h
  refine (ustep_any B p cb qb g lv s (lawQ 1) (pullV gq) q w (h.each 0 _ rfl) hB ht (by omega) h.bz hv hfr hph).mono ?_
  rintro e' w' ⟨he, lv', hE, hg, c, hf⟩
  refine ⟨he, lv', ?_⟩
  have t := h.upd2 (i := 0) (j := k + 2) (queueR B p cb qb lv' (pustep s (lawQ 1) q).1 (lawQ 1) (pullV gq)) (pushR qb (g, (pustep s (lawQ 1) q).2)) (r := queueR B p cb qb lv s (lawQ 1) (pullV gq)) (s := pushR qb (g, q)) rfl (by simp [exqL, hp]) (by omega) c (fun k _ e => e.imp .inl id) hE hg (fun k hk => fp_newQ hf hk) (fun k hk => hk)
  rw [show ((exqL B p cb qb lv s gq gp).set 0 (queueR B p cb qb lv' (pustep s (lawQ 1) q).1 (lawQ 1) (pullV gq))).set (k + 2) (pushR qb (g, (pustep s (lawQ 1) q).2)) = exqL B p cb qb lv' (pustep s (lawQ 1) q).1 gq (gp.set k (g, (pustep s (lawQ 1) q).2)) by simp [exqL, List.map_set]] at t
  exact t
theorem ExQ.unext (h : ExQ B p cb qb s gq gp w0 w) {g : Nat} {q : Pu} (hk : gp[k]? = some (g, q)) {r : Int} (hr : q.ph = r) : Calls Try.prog 24 #[.pointer (some ⟨g, 0, none⟩)] w fun e w' => e = .returned (.int .u8 r) ∧ w = w' := hr ▸ unext_any qb g w q (h.pushB hk)
theorem ExQ.ures (h : ExQ B p cb qb s gq gp w0 w) {g : Nat} {q : Pu} (hk : gp[k]? = some (g, q)) {r : Int} (hr : (if q.ph = 0 then q.er else 8) = r) : Calls Try.prog 25 #[.pointer (some ⟨g, 0, none⟩)] w fun e w' => e = .returned (.int .i64 r) ∧ w = w' := hr ▸ ures_any qb g w q (h.pushB hk)
/-- The last pull has ended, or there was none. -/
def gqRest : Option (Nat × Pl) → Prop
  | some (_, q) => q.fin = true
  | none => True
theorem ExQ.pull (h : ExQ B p cb qb s gq gp w0 w) (t : Nat) (ht : t < 16) (hr : gqRest gq) : Calls Try.prog 29 #[.pointer (some ⟨qb, 0, none⟩), .int .i64 t] w fun e w' =>
    ∃ g, e = .returned (.tuple #[.pointer (some ⟨g, 0, none⟩), .int .i64 0]) ∧ ExQ B p cb qb s (some (g, ⟨t, qH s (lawQ 1), 0, 19, 0, false⟩)) gp w0 w' := by
  obtain ⟨lv, h⟩ := h
  have hrs : Rests w qb (pullV gq) := by
    have hb := h.each 1 _ rfl
    match gq, hr, hb with
    | none, _, _ => exact .inl rfl
    | some (g, q), hr, hb => exact .inr ⟨g, q, rfl, hb, hr⟩
  refine (qpull_ok B p cb qb lv s (lawQ 1) (pullV gq) w (h.each 0 _ rfl) (t : Int) (by omega) hrs).mono ?_
  rintro e' w' ⟨g, he, hE, hg, c, hgs⟩
  refine ⟨g, he, lv, ?_⟩
  exact h.upd2 (i := 1) (j := 0) (pullR qb (some (g, ⟨t, qH s (lawQ 1), 0, 19, 0, false⟩))) (queueR B p cb qb lv s (lawQ 1) (.pointer (some ⟨g, 0, none⟩))) rfl rfl (by decide) c (fun k _ e => .inr (.inr e)) hg hE (fun k hk => .inr (by rw [show k = g from hk]; exact hgs)) (fun k hk => hk)
theorem ExQ.pull_busy {g : Nat} {q : Pl} (h : ExQ B p cb qb s (some (g, q)) gp w0 w) (t : Nat) (ht : t < 16) (hf : q.fin = false) : Calls Try.prog 29 #[.pointer (some ⟨qb, 0, none⟩), .int .i64 t] w fun e w' => e = .returned (.tuple #[.pointer none, .int .i64 8]) ∧ w = w' := by
  have hB := h.pullB
  obtain ⟨lv, h⟩ := h
  exact qpull_busy B p cb qb lv s (lawQ 1) _ w (h.each 0 _ rfl) (t : Int) (by omega) g q rfl hB hf
theorem ExQ.pull_bad (h : ExQ B p cb qb s gq gp w0 w) (t : Int) (hb : t < 0 ∨ 16 ≤ t) : Calls Try.prog 29 #[.pointer (some ⟨qb, 0, none⟩), .int .i64 t] w fun e w' => e = .returned (.tuple #[.pointer none, .int .i64 2]) ∧ w = w' := by
  obtain ⟨lv, h⟩ := h
  exact qpull_bad B p cb qb lv s (lawQ 1) _ w (h.each 0 _ rfl) t hb
theorem ExQ.lstep {g : Nat} {q : Pl} (h : ExQ B p cb qb s (some (g, q)) gp w0 w) (hl : s.lg.length < 900) (ht : 0 ≤ q.t ∧ q.t < 16) (hat : 0 ≤ q.at' ∧ q.at' < 18446744073709551616) (hph : q.ph = 0 ∨ q.ph = 19 ∨ q.ph = 20 ∨ q.ph = 21) :
    Calls Try.prog 30 #[.pointer (some ⟨g, 0, none⟩)] w fun e w' =>
    e = .returned (.tuple #[.int .u8 q.ph, .bool ((plstep s (lawQ 1) q).2.ph == 0)]) ∧ ExQ B p cb qb (plstep s (lawQ 1) q).1 (some (g, (plstep s (lawQ 1) q).2)) gp w0 w' := by
  have hB := h.pullB
  obtain ⟨lv, h⟩ := h
  refine (lstep_any B p cb qb g lv s (lawQ 1) _ q w (h.each 0 _ rfl) hB ht (by omega) h.bz hat hph).mono ?_
  rintro e' w' ⟨he, lv', hE, hg, c, hf⟩
  refine ⟨he, lv', ?_⟩
  exact h.upd2 (i := 0) (j := 1) (queueR B p cb qb lv' _ (lawQ 1) (.pointer (some ⟨g, 0, none⟩))) (pullR qb (some (g, _))) rfl rfl (by decide) c (fun k _ e => e.imp .inl id) hE hg (fun k hk => fp_newQ hf hk) (fun k hk => hk)
theorem ExQ.lres {g : Nat} {q : Pl} (h : ExQ B p cb qb s (some (g, q)) gp w0 w) {a b : Int} (hr : plRes q = (a, b)) : Calls Try.prog 31 #[.pointer (some ⟨g, 0, none⟩)] w fun e w' => e = .returned (.tuple #[.int .u64 a, .int .i64 b]) ∧ ExQ B p cb qb s (some (g, q)) gp w0 w' := by
  refine (lres_any qb g w q h.pullB).mono ?_
  rintro e' w' ⟨he, n, rfl⟩
  rw [hr] at he
  exact ⟨he, h.drewN n⟩
theorem ExQ.qlen (h : ExQ B p cb qb s gq gp w0 w) (H T : Nat) (hH : qH s (lawQ 1) = H) (hT : qT s (lawQ 1) = T) (hle : H ≤ T) (hsm : T ≤ 1000000) : Calls Try.prog 17 #[.pointer (some ⟨qb, 0, none⟩)] w fun e w' => e = .returned (.int .i64 ((T - H : Nat) : Int)) ∧ ExQ B p cb qb s gq gp w0 w' := by
  have h0 := h
  obtain ⟨lv, h⟩ := h
  refine (qlen_any B p cb qb lv s (lawQ 1) _ w (h.each 0 _ rfl) H T hH hT hle hsm).mono ?_
  rintro e' w' ⟨he, n, rfl⟩
  exact ⟨he, h0.drewN n⟩
theorem ExQ.qlist (h : ExQ B p cb qb s gq gp w0 w) (H T : Nat) (hH : qH s (lawQ 1) = H) (hT : qT s (lawQ 1) = T) (hle : H ≤ T) (hsm : T ≤ 1000000) {l : List Int} (hL : Go.Proofs.Ytpkjjlahmjijnaa.qlist s (lawQ 1) = l) : Calls Try.prog 18 #[.pointer (some ⟨qb, 0, none⟩)] w fun e w' => ∃ v, e = .returned v ∧ w'.ownsRow w.heap.size 22 1 v l.length (l.map (Value.int .u64)) ∧ ExQ B p cb qb s gq gp w0 w' := by
  have h0 := h
  obtain ⟨lv, h⟩ := h
  refine (qlist_any B p cb qb lv s (lawQ 1) _ w (h.each 0 _ rfl) H T hH hT hle hsm).mono ?_
  rintro e' w' ⟨v, he, ho, c⟩
  rw [hL] at ho
  exact ⟨v, he, ho, h0.keep c⟩
theorem ExQ.blen (h : ExQ B p cb qb s gq gp w0 w) {r : Nat} (hr : s.lg.length = r) : Calls Try.prog 14 #[.pointer (some ⟨p, 0, none⟩)] w fun e w' => e = .returned (.int .i64 r) ∧ w = w' := by
  subst hr
  obtain ⟨lv, h⟩ := h
  exact len_any B p cb lv s w (show QueueM B w p cb qb lv s (lawQ 1) (pullV gq) from h.each 0 _ rfl).b
end
set_option maxRecDepth 100000 in
theorem zpush (w : World) : Calls Try.prog 20 #[.pointer none, .int .i64 0, .int .u64 0] w fun e w' => e = .returned (.tuple #[.pointer none, .int .i64 1]) ∧ w = w' := by
  go_enter Try.func20, Try.ntmps20
  go_wp2_with fail
  go_ret2
  exact ⟨rfl, rfl⟩
set_option maxRecDepth 100000 in
theorem zpull (w : World) : Calls Try.prog 29 #[.pointer none, .int .i64 (-1)] w fun e w' => e = .returned (.tuple #[.pointer none, .int .i64 1]) ∧ w = w' := by
  go_enter Try.func29, Try.ntmps29
  go_wp2_with fail
  go_ret2
  exact ⟨rfl, rfl⟩
set_option maxRecDepth 100000 in
theorem znew (w : World) : Calls Try.prog 15 #[.pointer none, .int .i64 0, .int .i64 0, .int .i64 0, .int .i64 0] w fun e w' => e = .returned (.tuple #[.pointer none, .int .i64 1]) ∧ Ch (fun _ => False) w w' := by
  go_enter Try.func15, Try.ntmps15
  go_wp2_with fail
  go_ret2
  exact ⟨rfl, ((Ch.refl _ w).alloc _).alloc _⟩
set_option maxRecDepth 100000 in
theorem zustep (w : World) : Calls Try.prog 28 #[.pointer none] w fun e w' => e = .returned (.tuple #[.int .u8 0, .bool false]) ∧ w = w' := by
  go_enter Try.func28, Try.ntmps28
  go_wp2_with fail
  go_ret2
  exact ⟨rfl, rfl⟩
set_option maxRecDepth 100000 in
theorem zlstep (w : World) : Calls Try.prog 30 #[.pointer none] w fun e w' => e = .returned (.tuple #[.int .u8 0, .bool false]) ∧ w = w' := by
  go_enter Try.func30, Try.ntmps30
  go_wp2_with fail
  go_ret2
  exact ⟨rfl, rfl⟩
set_option maxRecDepth 100000 in
theorem zlres (w : World) : Calls Try.prog 31 #[.pointer none] w fun e w' => e = .returned (.tuple #[.int .u64 0, .int .i64 1]) ∧ w = w' := by
  go_enter Try.func31, Try.ntmps31
  go_wp2_with fail
  go_ret2
  exact ⟨rfl, rfl⟩
set_option maxRecDepth 100000 in
theorem zunext (w : World) : Calls Try.prog 24 #[.pointer none] w fun e w' => e = .returned (.int .u8 0) ∧ w = w' := by
  go_enter Try.func24, Try.ntmps24
  go_wp2_with fail
  go_ret
  exact ⟨rfl, rfl⟩
set_option maxRecDepth 100000 in
theorem zlnext (w : World) : Calls Try.prog 32 #[.pointer none] w fun e w' => e = .returned (.int .u8 0) ∧ w = w' := by
  go_enter Try.func32, Try.ntmps32
  go_wp2_with fail
  go_ret
  exact ⟨rfl, rfl⟩
set_option maxRecDepth 100000 in
theorem zures (w : World) : Calls Try.prog 25 #[.pointer none] w fun e w' => e = .returned (.int .i64 1) ∧ w = w' := by
  go_enter Try.func25, Try.ntmps25
  go_wp2_with fail
  go_ret
  exact ⟨rfl, rfl⟩
set_option maxRecDepth 100000 in
theorem zlen (w : World) : Calls Try.prog 17 #[.pointer none] w fun e w' => e = .returned (.int .i64 0) ∧ w = w' := by
  go_enter Try.func17, Try.ntmps17
  go_wp2_with fail
  go_ret
  exact ⟨rfl, rfl⟩
set_option maxRecDepth 100000 in
theorem zlist (w : World) : Calls Try.prog 18 #[.pointer none] w fun e w' => e = .returned (.slice none 0 0) ∧ w = w' := by
  go_enter Try.func18, Try.ntmps18
  go_wp2_with fail
  go_ret
  exact ⟨rfl, rfl⟩
end Go.Proofs.Ytpkjjlahmjijnaa
