/- EpochSteps: its memory. -/
import Derived.Test.YtokcodeeaneeaaaEpD
import Derived.Test.YtokcodeeaneeaaaREpB
import Derived.Test.YtokcodeeaneeaaaCellF
namespace Go.Proofs.Ytokcodeeaneeaaa
open Go.RowKit
set_option linter.unusedVariables false
set_option linter.unusedSimpArgs false
set_option linter.unusedSectionVars false

set_option maxRecDepth 100000 in
theorem pn_next_nil (w : World) : Calls Try.prog 21 #[.pointer none] w fun e w' => e = .returned (.int .u8 0) ∧ w = w' := by
  go_enter Try.func21, Try.ntmps21
  go_wp2_with fail
  go_ret
  exact ⟨rfl, rfl⟩
set_option maxRecDepth 100000 in
theorem rpn_next_nil (w : World) : Calls Try.prog 22 #[.pointer none] w fun e w' => e = .returned (.int .u8 0) ∧ w = w' := by
  go_enter Try.func22, Try.ntmps22
  go_wp2_with fail
  go_ret
  exact ⟨rfl, rfl⟩
set_option maxRecDepth 100000 in
theorem sn_next_nil (w : World) : Calls Try.prog 29 #[.pointer none] w fun e w' => e = .returned (.int .u8 0) ∧ w = w' := by
  go_enter Try.func29, Try.ntmps29
  go_wp2_with fail
  go_ret
  exact ⟨rfl, rfl⟩
set_option maxRecDepth 100000 in
theorem rsn_next_nil (w : World) : Calls Try.prog 30 #[.pointer none] w fun e w' => e = .returned (.int .u8 0) ∧ w = w' := by
  go_enter Try.func30, Try.ntmps30
  go_wp2_with fail
  go_ret
  exact ⟨rfl, rfl⟩
set_option maxRecDepth 100000 in
theorem pn_step_nil (w : World) : Calls Try.prog 23 #[.pointer none] w fun e w' => e = .returned (.tuple #[.int .u8 0, .bool false]) ∧ w = w' := by
  go_enter Try.func23, Try.ntmps23
  go_wp2_with fail
  go_ret2
  exact ⟨rfl, rfl⟩
set_option maxRecDepth 100000 in
theorem rpn_step_nil (w : World) : Calls Try.prog 24 #[.pointer none] w fun e w' => e = .returned (.tuple #[.int .u8 0, .bool false]) ∧ w = w' := by
  go_enter Try.func24, Try.ntmps24
  go_wp2_with fail
  go_ret2
  exact ⟨rfl, rfl⟩
set_option maxRecDepth 100000 in
theorem sn_step_nil (w : World) : Calls Try.prog 31 #[.pointer none] w fun e w' => e = .returned (.tuple #[.int .u8 0, .bool false]) ∧ w = w' := by
  go_enter Try.func31, Try.ntmps31
  go_wp2_with fail
  go_ret2
  exact ⟨rfl, rfl⟩
set_option maxRecDepth 100000 in
theorem rsn_step_nil (w : World) : Calls Try.prog 32 #[.pointer none] w fun e w' => e = .returned (.tuple #[.int .u8 0, .bool false]) ∧ w = w' := by
  go_enter Try.func32, Try.ntmps32
  go_wp2_with fail
  go_ret2
  exact ⟨rfl, rfl⟩
set_option maxRecDepth 100000 in
theorem sn_res_nil (w : World) : Calls Try.prog 33 #[.pointer none] w fun e w' => e = .returned (.tuple #[.bool false, .int .i64 1]) ∧ w = w' := by
  go_enter Try.func33, Try.ntmps33
  go_wp2_with fail
  go_ret2
  exact ⟨rfl, rfl⟩
set_option maxRecDepth 100000 in
theorem rsn_res_nil (w : World) : Calls Try.prog 34 #[.pointer none] w fun e w' => e = .returned (.tuple #[.bool false, .int .i64 1]) ∧ w = w' := by
  go_enter Try.func34, Try.ntmps34
  go_wp2_with fail
  go_ret2
  exact ⟨rfl, rfl⟩

def SameInts (w : World) (a : Option Addr) (n : Nat) (xs : List Int) : Prop := xs.length = n ∧ (0 < n → ∃ b off, a = some ⟨b, off, none⟩ ∧ ∀ i, i < n → w.cell? ⟨b, off + i, none⟩ = some (.int .i64 (lk xs i)))
set_option maxHeartbeats 1000000 in
theorem eqInts_any (a b : Option Addr) (n ca cb : Nat) (xs : List Int) (w : World) (ha : SameInts w a n xs) (hb : SameInts w b n xs) (hn : n < 1000000) :
    Calls Try.prog 36 #[.slice a n ca, .slice b n cb] w fun e w' => e = .returned (.bool true) ∧ ∃ k, w' = w.drewN k := by
  have hne : ((n : Int) != (n : Int)) = false := by simp
  go_enter Try.func36, Try.ntmps36
  go_wp2_with fail
  go_loopw [5] (fun i wr => ∃ k : Nat, k ≤ n ∧ i = .int .i64 k ∧ ∃ d, wr = w.drewN d) (fun i _ => n - (intOf i).toNat)
  case atStart => exact ⟨0, Nat.zero_le _, rfl, 0, rfl⟩
  case round =>
    obtain ⟨k, hk, rfl, d, rfl⟩ := hrel
    by_cases hlt : k < n
    · obtain ⟨b1, o1, rfl, h1⟩ := ha.2 (by omega)
      obtain ⟨b2, o2, rfl, h2⟩ := hb.2 (by omega)
      have c1 := h1 k hlt
      have c2 := h2 k hlt
      clear h1 h2
      have he' : (lk xs k != lk xs k) = false := by simp
      go_wp2_with fail
      go_quiet (fail)
      go_wp2_with fail
      go_roundw
      case rel => exact ⟨k + 1, by omega, by go_num, _, rfl⟩
      case measure => simp [intOf]; omega
    · obtain rfl : k = n := by omega
      go_wp2_with fail
      go_ret
      exact ⟨rfl, _, rfl⟩
theorem ints_of_own {w : World} {B n c : Nat} {A : Option Addr} {xs : List Int} (h : w.ownsRow B 3 1 (.slice A n c) n (xs.map (Value.int .i64))) : SameInts w A n xs := by
  have hl : xs.length = n := by have := h.1; simpa using this
  refine ⟨hl, fun h0 => ?_⟩
  obtain ⟨g, cap, hv, _, _, _, hg⟩ := own_form h h0
  injection hv with hA _ _
  subst hA
  refine ⟨g, 0, rfl, fun i hi => ?_⟩
  have hc := h.cells (g := g) rfl i (.int .i64 (lk xs i)) (by simp [lk, show i < xs.length by omega])
  rw [addr_add0] at hc
  rw [Nat.zero_add]; exact hc
theorem SameInts.ch {w w' : World} {a : Option Addr} {n : Nat} {xs : List Int} (h : SameInts w a n xs) (c : ∀ b o, a = some ⟨b, o, none⟩ → ∀ i, w'.cell? ⟨b, i, none⟩ = w.cell? ⟨b, i, none⟩) : SameInts w' a n xs :=
  ⟨h.1, fun h0 => by
    obtain ⟨b, o, rfl, hc⟩ := h.2 h0
    exact ⟨b, o, rfl, fun i hi => (c b o rfl _).trans (hc i hi)⟩⟩

/-- Of each slot: the last pin's blocks, the pin, and whether it is still in its slot. -/
abbrev Slot := Option (Nat × Nat × Pn × Bool)
def Slot.ps : Slot → Option Nat
  | some (g, _, _, true) => some g
  | _ => none
def Slot.st : Slot → Int
  | some (_, _, q, true) => if q.ph = 0 then 2 else 1
  | _ => 0
def psOf (gp : List Slot) : List (Option Nat) := gp.map Slot.ps
def stOf (gp : List Slot) : List Int := gp.map Slot.st
def Slot.i : Slot → Option Nat := fun o => o.map fun x => x.1
def Slot.r : Slot → Option Nat := fun o => o.map fun x => x.2.1
def arrI (gp : List Slot) : Array Value := ((List.range 5).map fun k => pinV (Slot.i (gp[k]?.getD none))).toArray
def arrR (gp : List Slot) : Array Value := ((List.range 5).map fun k => pinV (Slot.r (gp[k]?.getD none))).toArray
def pinRes (qb : Nat) : Slot → Res
  | some (g, _, q, _) => blkR g 117 (pnCells qb g q)
  | none => pureR True
def rpinRes (rq : Nat) : Slot → Res
  | some (_, g, q, _) => blkR g 120 (rpnCells rq q)
  | none => pureR True
abbrev Scn := Option (Nat × Nat × Sn × Int)
def scV (gs : Scn) : Value := pinV (gs.map fun x => x.1)
def rscV (gs : Scn) : Value := pinV (gs.map fun x => x.2.1)
def scnOf : Scn → Bool
  | some (_, _, q, _) => q.ph != 0
  | none => false
def scRes (qb : Nat) : Scn → Res
  | some (g, _, q, _) => blkR g 124 (snCells qb g q)
  | none => pureR True
def rscRes (rq : Nat) : Scn → Res
  | some (_, g, q, a) => blkR g 126 (rsnCells rq q a)
  | none => pureR True
def epochR (B p cb qb : Nat) (lv : Value) (s : BS) (f : Ed) (pins sc : Value) : Res where
  holds w := EpochM B w p cb qb lv s f pins sc
  foot k := FP p cb lv k ∨ k = qb
  stable h c hn := h.ch c (hn _ (.inl (.inl rfl))) (hn _ (.inl (.inr (.inl rfl)))) (fun k hk => hn k (.inl (.inr (.inr hk)))) (hn _ (.inr rfl))
  lt h k hk := by
    rcases hk with (rfl | rfl | hk) | rfl
    · exact h.b.hp.lt
    · exact h.b.hc.lt
    · exact (h.b.hl.lt k hk).2
    · exact h.fd.lt
def refR (B rp vb rq stb : Nat) (mv : Value) (s : BS) (f : Ed) (sl : Int) (st : List Int) (scn : Bool) : Res where
  holds w := REpM B w rp vb rq stb mv s f sl st scn
  foot k := FP rp vb mv k ∨ k = rq ∨ k = stb
  stable h c hn := h.ch c (fun k hk => hn k hk)
  lt h k hk := by
    rcases hk with (rfl | rfl | hk) | rfl | rfl
    · exact h.r.hp.lt
    · exact h.r.hc.lt
    · exact (h.r.hl.lt k hk).2
    · exact h.fd.lt
    · exact h.sb.lt
def lawE (n : Nat) : Ed := ⟨n + 1, 1, n⟩
def pinsV (pb n : Nat) : Value := .slice (some ⟨pb, 0, none⟩) n n
/-- The things of EpochSteps. -/
def eL (B p cb qb pb rp vb rq stb A0 A1 n : Nat) (sl : Int) (lv mv : Value) (s s2 : BS) (ps : List (Option Nat)) (st : List Int) (c0 c1 : Array Value) (sc : Value) (scn : Bool) (r5 r6 : Res) (L7 L8 : List Res) : List Res :=
  epochR B p cb qb lv s (lawE n) (pinsV pb n) sc :: blkR pb 45 (pinsA ps) :: refR B rp vb rq stb mv s2 (lawE n) sl st scn :: blkR A0 46 c0 :: blkR A1 48 c1 :: r5 :: r6 :: (L7 ++ L8)

/-- The memory of EpochSteps, and what is known of it. -/
structure RunE (B p cb qb pb rp vb rq stb A0 A1 n M : Nat) (sl : Int) (lv mv : Value) (s : BS) (gp : List Slot) (gs : Scn) (w0 w : World) : Prop where
  mem : Mem B w0 (eL B p cb qb pb rp vb rq stb A0 A1 n sl lv mv s s (psOf gp) (stOf gp) (arrI gp) (arrR gp) (scV gs) (scnOf gs) (scRes qb gs) (rscRes rq gs) (gp.map (pinRes qb)) (gp.map (rpinRes rq))) w
  len : gp.length = n
  n5 : n ≤ 5
  lg : s.lg.length ≤ M
  hM : M ≤ 500000
  pn : ∀ (k g g' : Nat) (q : Pn) (l : Bool), gp[k]? = some (some (g, g', q, l)) → q.slot = k ∧ (0 ≤ q.t ∧ q.t < 16) ∧ (q.ph = 0 ∨ q.ph = 9 ∨ q.ph = 10) ∧ (l = false → q.ph = 0)
  sc : ∀ (g g' : Nat) (q : Sn) (a : Int), gs = some (g, g', q, a) → (0 ≤ q.t ∧ q.t < 16) ∧ (q.ph = 0 ∨ (q.ph = 34 ∧ q.at' < n ∧ a = q.at') ∨ q.ph = 35)

section
variable {B p cb qb pb rp vb rq stb A0 A1 n M k : Nat} {sl : Int} {lv mv : Value} {s s2 : BS} {ps : List (Option Nat)} {st : List Int} {c0 c1 : Array Value} {sc : Value} {scn : Bool} {r5 r6 x : Res} {L7 L8 : List Res} {gp : List Slot} {gs : Scn} {w0 w w' : World}
theorem eL_at7 (h : L7[k]? = some x) : (eL B p cb qb pb rp vb rq stb A0 A1 n sl lv mv s s2 ps st c0 c1 sc scn r5 r6 L7 L8)[7 + k]? = some x := by
  rw [Nat.add_comm]
  simp only [eL, List.getElem?_cons_succ]
  rw [List.getElem?_append_left (List.getElem?_eq_some_iff.1 h).1]; exact h
theorem eL_at8 (hl : L7.length = n) (h : L8[k]? = some x) : (eL B p cb qb pb rp vb rq stb A0 A1 n sl lv mv s s2 ps st c0 c1 sc scn r5 r6 L7 L8)[7 + n + k]? = some x := by
  rw [show 7 + n + k = (n + k) + 7 by omega]
  simp only [eL, List.getElem?_cons_succ]
  rw [List.getElem?_append_right (by omega), hl, Nat.add_sub_cancel_left]; exact h
theorem eL_set7 (h : k < L7.length) (x : Res) : (eL B p cb qb pb rp vb rq stb A0 A1 n sl lv mv s s2 ps st c0 c1 sc scn r5 r6 L7 L8).set (7 + k) x = eL B p cb qb pb rp vb rq stb A0 A1 n sl lv mv s s2 ps st c0 c1 sc scn r5 r6 (L7.set k x) L8 := by
  rw [Nat.add_comm]
  simp only [eL, List.set_cons_succ]
  rw [List.set_append_left _ _ h]
theorem eL_set8 (hl : L7.length = n) (x : Res) : (eL B p cb qb pb rp vb rq stb A0 A1 n sl lv mv s s2 ps st c0 c1 sc scn r5 r6 L7 L8).set (7 + n + k) x = eL B p cb qb pb rp vb rq stb A0 A1 n sl lv mv s s2 ps st c0 c1 sc scn r5 r6 L7 (L8.set k x) := by
  rw [show 7 + n + k = (n + k) + 7 by omega]
  simp only [eL, List.set_cons_succ]
  rw [List.set_append_right _ _ (by omega), hl, Nat.add_sub_cancel_left]
theorem RunE.keep (h : RunE B p cb qb pb rp vb rq stb A0 A1 n M sl lv mv s gp gs w0 w) (c : Ch (fun _ => False) w w') : RunE B p cb qb pb rp vb rq stb A0 A1 n M sl lv mv s gp gs w0 w' := { h with mem := h.mem.keep c }
theorem RunE.drewN (h : RunE B p cb qb pb rp vb rq stb A0 A1 n M sl lv mv s gp gs w0 w) (m : Nat) : RunE B p cb qb pb rp vb rq stb A0 A1 n M sl lv mv s gp gs w0 (w.drewN m) := h.keep ((Ch.refl _ w).drewN m)
theorem RunE.mono {M' : Nat} (h : RunE B p cb qb pb rp vb rq stb A0 A1 n M sl lv mv s gp gs w0 w) (h1 : M ≤ M') (h2 : M' ≤ 500000) : RunE B p cb qb pb rp vb rq stb A0 A1 n M' sl lv mv s gp gs w0 w := { h with lg := Nat.le_trans h.lg h1, hM := h2 }
theorem RunE.ep (h : RunE B p cb qb pb rp vb rq stb A0 A1 n M sl lv mv s gp gs w0 w) : EpochM B w p cb qb lv s (lawE n) (pinsV pb n) (scV gs) := h.mem.each 0 _ rfl
theorem RunE.re (h : RunE B p cb qb pb rp vb rq stb A0 A1 n M sl lv mv s gp gs w0 w) : REpM B w rp vb rq stb mv s (lawE n) sl (stOf gp) (scnOf gs) := h.mem.each 2 _ rfl
theorem RunE.pa (h : RunE B p cb qb pb rp vb rq stb A0 A1 n M sl lv mv s gp gs w0 w) : Blk w pb 45 (pinsA (psOf gp)) := h.mem.each 1 _ rfl
theorem RunE.ai (h : RunE B p cb qb pb rp vb rq stb A0 A1 n M sl lv mv s gp gs w0 w) : Blk w A0 46 (arrI gp) := h.mem.each 3 _ rfl
theorem RunE.ar (h : RunE B p cb qb pb rp vb rq stb A0 A1 n M sl lv mv s gp gs w0 w) : Blk w A1 48 (arrR gp) := h.mem.each 4 _ rfl
theorem RunE.pin (h : RunE B p cb qb pb rp vb rq stb A0 A1 n M sl lv mv s gp gs w0 w) {k : Nat} {o : Slot} (hk : gp[k]? = some o) : (pinRes qb o).holds w := h.mem.each (7 + k) _ (eL_at7 (by simp [hk]))
theorem RunE.rpin (h : RunE B p cb qb pb rp vb rq stb A0 A1 n M sl lv mv s gp gs w0 w) {k : Nat} {o : Slot} (hk : gp[k]? = some o) : (rpinRes rq o).holds w := h.mem.each (7 + n + k) _ (eL_at8 (by simp [h.len]) (by simp [hk]))
theorem fp_new {v v' : Value} {W : World} (hf : Fresh W v v') {k : Nat} (h : FP p cb v' k ∨ k = qb) : (FP p cb v k ∨ k = qb) ∨ W.heap.size ≤ k := by
  rcases h with (e | e | e) | e
  · exact .inl (.inl (.inl e))
  · exact .inl (.inl (.inr (.inl e)))
  · rcases hf with e' | e'
    · exact .inl (.inl (.inr (.inr (by rw [← e']; exact e))))
    · exact .inr (e' k e)
  · exact .inl (.inr e)
theorem rfp_new {v v' : Value} {W : World} (hf : Fresh W v v') {k : Nat} (h : FP rp vb v' k ∨ k = rq ∨ k = stb) : (FP rp vb v k ∨ k = rq ∨ k = stb) ∨ W.heap.size ≤ k := by
  rcases h with (e | e | e) | e
  · exact .inl (.inl (.inl e))
  · exact .inl (.inl (.inr (.inl e)))
  · rcases hf with e' | e'
    · exact .inl (.inl (.inr (.inr (by rw [← e']; exact e))))
    · exact .inr (e' k e)
  · exact .inl (.inr e)

theorem arrI_at (gp : List Slot) (k : Nat) (hk : k < 5) : (arrI gp)[k]? = some (pinV (Slot.i (gp[k]?.getD none))) := by simp [arrI, hk]
theorem arrR_at (gp : List Slot) (k : Nat) (hk : k < 5) : (arrR gp)[k]? = some (pinV (Slot.r (gp[k]?.getD none))) := by simp [arrR, hk]
theorem arr_set (F : Slot → Option Nat) (gp : List Slot) (k : Nat) (hk : k < gp.length) (o : Slot) : (((List.range 5).map fun k => pinV (F (gp[k]?.getD none))).toArray).setIfInBounds k (pinV (F o)) = ((List.range 5).map fun j => pinV (F ((gp.set k o)[j]?.getD none))).toArray := by
  rw [List.setIfInBounds_toArray]
  congr 1
  apply List.ext_getElem (by simp)
  intro j h1 h2
  simp only [List.length_set, List.length_map, List.length_range] at h1 h2
  rw [List.getElem_set]
  by_cases e : k = j
  · subst e
    rw [if_pos rfl]
    simp [hk]
  · rw [if_neg e]
    simp [List.getElem?_set, e]
theorem arrI_set (gp : List Slot) (k : Nat) (hk : k < gp.length) (o : Slot) : (arrI gp).setIfInBounds k (pinV (Slot.i o)) = arrI (gp.set k o) := arr_set Slot.i gp k hk o
theorem arrR_set (gp : List Slot) (k : Nat) (hk : k < gp.length) (o : Slot) : (arrR gp).setIfInBounds k (pinV (Slot.r o)) = arrR (gp.set k o) := arr_set Slot.r gp k hk o
theorem set_selfE {α : Type} (l : List α) (k : Nat) (x : α) (h : l[k]? = some x) : l.set k x = l := by
  apply List.ext_getElem? 
  intro j
  rw [List.getElem?_set]
  by_cases e : k = j
  · subst e
    rw [if_pos rfl, if_pos (List.getElem?_eq_some_iff.1 h).1, h]
  · rw [if_neg e]
/-- The array's entries do not change with the pin. -/
theorem arrI_same (gp : List Slot) (k : Nat) (o o' : Slot) (h : gp[k]? = some o) (he : Slot.i o' = Slot.i o) : arrI (gp.set k o') = arrI gp := by
  unfold arrI
  congr 1
  refine List.map_congr_left fun j hj => ?_
  rw [List.getElem?_set]
  by_cases e : k = j
  · subst e
    rw [if_pos rfl, if_pos (List.getElem?_eq_some_iff.1 h).1, h]
    show pinV (Slot.i o') = pinV (Slot.i o)
    rw [he]
  · rw [if_neg e]
theorem arrR_same (gp : List Slot) (k : Nat) (o o' : Slot) (h : gp[k]? = some o) (he : Slot.r o' = Slot.r o) : arrR (gp.set k o') = arrR gp := by
  unfold arrR
  congr 1
  refine List.map_congr_left fun j hj => ?_
  rw [List.getElem?_set]
  by_cases e : k = j
  · subst e
    rw [if_pos rfl, if_pos (List.getElem?_eq_some_iff.1 h).1, h]
    show pinV (Slot.r o') = pinV (Slot.r o)
    rw [he]
  · rw [if_neg e]
end
end Go.Proofs.Ytokcodeeaneeaaa
