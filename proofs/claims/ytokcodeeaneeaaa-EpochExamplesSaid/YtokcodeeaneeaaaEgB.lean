/- Runs of an epoch: a run begins. -/
import Derived.Test.YtokcodeeaneeaaaEgM
namespace Go.Proofs.Ytokcodeeaneeaaa
open Go.RowKit
set_option linter.unusedVariables false
set_option linter.unusedSimpArgs false
set_option linter.unusedSectionVars false

theorem madeX_repG (v : Value) (n : Nat) : madeX #[v] n = (List.replicate n v).toArray := by
  unfold madeX madeCells
  apply Array.ext (by simp)
  intro i h1 h2
  simp [Nat.mod_one]
theorem eerr_freshG (n : Nat) (h : n ≤ 5) : eerr (List.replicate (n + 1) 0) 0 1 n = 0 := by
  have hz : ∀ c, lk (List.replicate (n + 1) (0 : Int)) c = 0 := by
    intro c
    simp only [lk, List.getD_eq_getElem?_getD, List.getElem?_replicate]
    split <;> rfl
  unfold eerr
  rw [List.length_replicate, if_neg (by omega), if_neg (fun e => e ⟨⟨by omega, by omega⟩, by omega⟩), if_neg (by omega), if_neg]
  rintro (e | ⟨j, _, _, hj⟩)
  · exact e (hz _)
  · exact hj (hz j)
theorem Mem.addG {B : Nat} {w0 w : World} {L : List Res} (h : Mem B w0 L w) (r : Res) (h' : r.holds w) (ha : ∀ s ∈ L, ∀ k, s.foot k → ¬ r.foot k) (hl : ∀ k, r.foot k → B ≤ k) : Mem B w0 (L ++ [r]) w := by
  refine ⟨fun j s hj => ?_, fun j j' s s' hj hj' hne k hs hs' => ?_, fun j s hj k hs => ?_, h.bel, h.bz⟩
  · rcases mem_app hj with ⟨_, rfl⟩ | hj
    · exact h'
    · exact h.each j s hj
  · rcases mem_app hj with ⟨rfl, rfl⟩ | hj1
    · rcases mem_app hj' with ⟨rfl, _⟩ | hj2
      · exact hne rfl
      · exact ha s' (List.mem_of_getElem? hj2) k hs' hs
    · rcases mem_app hj' with ⟨rfl, rfl⟩ | hj2
      · exact ha s (List.mem_of_getElem? hj1) k hs hs'
      · exact h.apart j j' s s' hj1 hj2 hne k hs hs'
  · rcases mem_app hj with ⟨_, rfl⟩ | hj
    · exact hl k hs
    · exact h.low j s hj k hs
theorem Mem.addN {B : Nat} {w0 w : World} {L : List Res} (h : Mem B w0 L w) (r : Res) (h' : r.holds w) (hf : ∀ k, ¬ r.foot k) : Mem B w0 (L ++ [r]) w := h.addG r h' (fun _ _ k _ hk => hf k hk) (fun k hk => absurd hk (hf k))
theorem Mem.addNs {B : Nat} {w0 w : World} : ∀ (L' : List Res) {L : List Res}, Mem B w0 L w → (∀ r ∈ L', r = pureR True) → Mem B w0 (L ++ L') w
  | [], L, h, _ => by rw [List.append_nil]; exact h
  | r :: L', L, h, hp => by
    have e := hp r (List.mem_cons_self ..)
    subst e
    have t := Mem.addNs L' (h.addN (pureR True) trivial (fun _ hk => hk)) (fun r hr => hp r (List.mem_cons_of_mem _ hr))
    rwa [List.append_assoc] at t

/-- A run was begun. -/
def EgBegun (n : Nat) (w : World) (e : Ending) (w' : World) : Prop :=
  ∃ p cb qb pb pr X lb, e = .returned (.pointer (some ⟨X, 0, none⟩)) ∧ RunG (gbOf (List.replicate n none)) w.heap.size p cb qb pb pr X lb n 0 (.slice none 0 0) (.slice none 0 0) (.slice none 0 0) (.slice none 0 0) (.slice none 0 0) (x0 n) (List.replicate n none) none [] w w'

set_option maxRecDepth 100000 in
set_option maxHeartbeats 2000000 in
theorem egbegin_any (n : Nat) (hn : n ≤ 5) (w : World) : Calls Try.prog 64 #[.int .i64 n] w (EgBegun n w) := by
  have hmk : ∀ W : World, (Instr.makeSlice 78 (.int .i64 (n : Int)) (.int .i64 (n : Int))).run Try.prog W = .ok (.slice (some ⟨W.heap.size, 0, none⟩) n n) (W.alloc (.cells (madeX (Value.cells (.pointer none)) (n * 1)) 45)) := fun W => run_make_x (P := Try.prog) 78 45 (.pointer none) 1 8 Try.underlying78 (by kernel_rfl) (by decide) n (by omega) W
  go_enter Try.func64, Try.ntmps64
  go_wp2_with fail
  rw [show ((n : Int) + 1) = ((n + 1 : Nat) : Int) by push_cast; rfl]
  refine (new_ok w.heap.size (n + 1) (by omega) (by omega) w (Nat.le_refl _)).mono ?_
  rintro e w1 ⟨p, cb, rfl, hbank, hc1, hp1, hcb1⟩
  have HB := hid hbank
  have HC := hid hc1
  clear hbank hc1
  go_wp2_with fail
  refine (enew_any w.heap.size p cb _ ⟨List.replicate (n + 1) 0, []⟩ 0 1 n w1 HB.out (by show (List.replicate (n + 1) (0 : Int)).length ≤ 4096; rw [List.length_replicate]; omega)).mono ?_
  rintro e w2 ⟨hc2, hr2⟩
  rw [show (⟨List.replicate (n + 1) 0, []⟩ : BS).vs = List.replicate (n + 1) 0 from rfl, eerr_freshG n hn] at hr2
  rcases hr2 with ⟨h, _⟩ | ⟨_, qb, pb, hqb, hpb, rfl, hqd, hpd⟩
  · exact absurd rfl h
  have HQ := hid hqd
  have HP := hid hpd
  have HC2 := hid hc2
  clear hqd hpd hc2
  go_wp2_with fail
  refine (newlimbo w2).mono ?_
  rintro e w3 ⟨rfl, hlb, hc3⟩
  obtain ⟨lb, hlbe⟩ : ∃ lb, lb = w2.heap.size := ⟨_, rfl⟩
  rw [← hlbe] at hlb ⊢
  have HL := hid hlb
  have HC3 := hid hc3
  have HLE := hid hlbe
  clear hlb hc3 hlbe
  go_wp2_with fail
  go_ret
  have c13 : Ch (fun _ => False) w1 w3 := HC2.out.trans HC3.out (fun _ _ h => h)
  have c03 : Ch (fun _ => False) w w3 := HC.out.trans c13 (fun _ _ h => h)
  have hB3 : w.heap.size ≤ w3.heap.size := c03.size
  have bq : w.heap.size ≤ qb := Nat.le_trans HC.out.size hqb
  have bp : w.heap.size ≤ pb := Nat.le_trans HC.out.size hpb
  have bl : w.heap.size ≤ lb := by rw [HLE.out]; exact Nat.le_trans HC.out.size HC2.out.size
  have hQM : EpochM w.heap.size w3 p cb qb (.slice none 0 0) ⟨List.replicate (n + 1) 0, []⟩ (edf n) (pinsV pb n) (.pointer none) :=
    ⟨HB.out.ch c13 id id (fun _ _ => id), by have h := HC3.out.blk HQ.out id; simpa [edCells, edf, pinsV] using h, ⟨by show 0 < (List.replicate (n + 1) (0 : Int)).length; simp, by show n ≤ 64; omega, fun i hi => by
      have hi' : i < n := hi
      show 0 ≤ (1 : Int) + i ∧ (1 : Int) + i < ((List.replicate (n + 1) (0 : Int)).length : Nat)
      rw [List.length_replicate]; omega⟩, bq⟩
  have hP : Blk w3 pb 45 (pinsA (List.replicate n none)) := by
    have h := HC3.out.blk HP.out id
    rw [Int.toNat_natCast, madeX_repG] at h
    simpa [pinsA, pinV] using h
  have m0 := Mem.nil (w0 := w) (B := w.heap.size) (w := w3) hB3 (c03.below (Nat.le_refl _) (fun _ h => h.elim))
  have m1 := m0.addG (epochR w.heap.size p cb qb (.slice none 0 0) ⟨List.replicate (n + 1) 0, []⟩ (edf n) (pinsV pb n) (.pointer none)) hQM (fun s h => by simp at h) (fun k hk => by
    rcases hk with (rfl | rfl | hk) | rfl
    · exact hp1
    · exact hcb1
    · cases hk
    · exact bq)
  have m2 := m1.addG (blkR pb 45 (pinsA (List.replicate n none))) hP (by
    intro r hr k hk hk'
    simp at hr
    subst hr
    obtain rfl : k = pb := hk'
    rcases hk with (e | e | e) | e
    · exact hP.ne hQM.b.hp (by decide) e
    · exact hP.ne hQM.b.hc (by decide) e
    · cases e
    · exact hP.ne hQM.fd (by decide) e) (fun k hk => by rw [show k = pb from hk]; exact bp)
  have em : madeX #[.pointer none] n = pinsA (List.replicate n none) := by
    rw [madeX_repG]
    simp [pinsA, pinV]
  have m3 := m2.add (blkR w3.heap.size 45 (pinsA (List.replicate n none))) ((Ch.refl _ w3).alloc (.cells (madeX #[.pointer none] n) 45)) (by
    have t := Blk.new w3 45 (madeX #[.pointer none] n)
    rw [em] at t ⊢
    exact t) (fun k hk => Nat.le_of_eq (by rw [show k = w3.heap.size from hk]))
  have m4 := m3.add (blkR (w3.heap.size + 1) 81 (egCells p qb lb w3.heap.size n (.pointer none) (.slice none 0 0) true)) ((Ch.refl _ _).alloc _) (blk_new2 _ _ _ _) (fun k hk => by rw [show k = w3.heap.size + 1 from hk]; simp)
  have hL := (HL.out.alloc (.cells (madeX #[.pointer none] n) 45)).alloc (.cells (egCells p qb lb w3.heap.size n (.pointer none) (.slice none 0 0) true) 81)
  have m5 := m4.addG (blkR lb 133 (lbCells (.slice none 0 0) (.slice none 0 0) (.slice none 0 0))) hL (by
    have hlt := HL.out.lt
    have hep := m4.each 0 _ rfl
    have hpb2 : Blk _ pb _ _ := m4.each 1 _ rfl
    intro r hr k hk hk'
    obtain rfl : k = lb := hk'
    simp at hr
    rcases hr with rfl | rfl | rfl | rfl
    · rcases hk with (e | e | e) | e
      · exact HL.out.ne hQM.b.hp (by decide) e
      · exact HL.out.ne hQM.b.hc (by decide) e
      · cases e
      · exact HL.out.ne hQM.fd (by decide) e
    · exact HL.out.ne hP (by decide) hk
    · have : k = w3.heap.size := hk
      omega
    · have : k = w3.heap.size + 1 := hk
      omega) (fun k hk => by rw [show k = lb from hk]; exact bl)
  have m6 := m5.addN (rowR w.heap.size 92 1 0 (.slice none 0 0) []) (World.ownsRow_nil _ _ _ _) (fun k hk => by cases hk)
  have m7 := m6.addN (rowR w.heap.size 92 1 0 (.slice none 0 0) []) (World.ownsRow_nil _ _ _ _) (fun k hk => by cases hk)
  have m8 := m7.addN (rowR w.heap.size 92 1 0 (.slice none 0 0) []) (World.ownsRow_nil _ _ _ _) (fun k hk => by cases hk)
  have m9 := m8.addN (rowR w.heap.size 86 3 0 (.slice none 0 0) []) (World.ownsRow_nil _ _ _ _) (fun k hk => by cases hk)
  have m10 := m9.addNs ([pureR True] ++ (List.replicate n (none : Gp)).map (gpR qb) ++ []) (by
    intro r hr
    simp at hr
    rcases hr with h | ⟨_, h⟩
    · exact h
    · exact h)
  have e1 : gbOf (List.replicate n none) = List.replicate n none := by simp [gbOf]
  refine ⟨p, cb, qb, pb, w3.heap.size, w3.heap.size + 1, lb, by simp, ?_, by simp [gqOf, x0], rfl, rfl, (ginv_x0 n).toEInv, Nat.le_refl _, hn, by decide⟩
  rw [e1]
  exact m10
end Go.Proofs.Ytokcodeeaneeaaa
