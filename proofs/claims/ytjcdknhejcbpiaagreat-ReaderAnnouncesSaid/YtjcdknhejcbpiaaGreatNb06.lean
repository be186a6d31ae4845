/- Lemmas that the proof of the last text leans on; no condition. -/
import Derived.Test.YtjcdknhejcbpiaaGreatNb01
namespace Go.Proofs.YtjcdknhejcbpiaaGreat.Mix
open Go
set_option linter.unusedSimpArgs false
section
variable {P : Program} {ops : Array Oper} {S : Nat → Prop} {kd : Nat → Nat}
def lexP (ops : Array Oper) (kd : Nat → Nat) : List Nat → Array Bool → Bool
  | [], _ => true
  | i :: rest, listed => (Region.ready .any ops listed).contains i && freeX ops kd listed i && lexP ops kd rest (listed.setIfInBounds i true)
def marks (ord : List Nat) (listed : Array Bool) : Array Bool := ord.foldl (fun l i => l.setIfInBounds i true) listed
theorem blk_size (listed : Array Bool) (i : Nat) : (blkA ops listed i).size = ops.size := by
  unfold blkA
  have : ∀ (l : List Nat) (b : Array Bool), b.size = ops.size → (l.foldl (fun b j => if !listed.getD j true && ((ops[j]?).map (·.after.any fun e => Region.binds .any e && (e.on == i || b.getD e.on false))).getD false then b.setIfInBounds j true else b) b).size = ops.size := by
    intro l
    induction l with
    | nil => intro b hb; exact hb
    | cons x l ih => intro b hb; simp only [List.foldl_cons]; exact ih _ (by split <;> simpa using hb)
  exact this _ _ (by simp)
theorem wpX_step {Q : Act → World → Prop} (hs : Region.noSelect ops = true) {i : Nat} {listed : Array Bool} {a : Act} {w : World} {fuel : Nat} (hr : (Region.ready .any ops listed).contains i = true) (hf : freeX ops kd listed i = true)
    (H : opX P ops S kd i (wpX P ops S kd Q fuel (listed.setIfInBounds i true)) a w) : wpX P ops S kd Q (fuel + 1) listed a w := by
  have hr' : i ∈ Region.ready .any ops listed := by simpa using hr
  obtain ⟨_, oi, hoi, _⟩ := mem_ready.1 hr'
  simp only [freeX, hoi, List.all_eq_true, List.mem_range] at hf
  refine wpX_first hoi (Region.noSelect_spec hs) (fun j => (blkA ops listed i).getD j false = true ∧ j < ops.size) (fun j oj hj hoj => ?_) fuel listed a w (fun j hj => ?_) (fun j oj hoj hji hun hb => ?_) hr' H
  · have h1 := hf j hj.2
    simp only [hoj, hj.1, Bool.not_true, Bool.false_or, Bool.and_eq_true] at h1
    obtain ⟨e, he, hb⟩ := Array.any_eq_true'.1 h1.1.2
    simp only [Bool.and_eq_true, Bool.or_eq_true, beq_iff_eq] at hb
    refine ⟨e, he, hb.1, hb.2.imp id fun h => ⟨h, ?_⟩⟩
    rcases Nat.lt_or_ge e.on ops.size with h' | h'
    · exact h'
    · have hsz := blk_size (ops := ops) listed i
      rw [Array.getD_eq_getD_getElem?, Array.getElem?_eq_none (by omega)] at h
      cases h
  · obtain ⟨o, ho⟩ : ∃ o, ops[j]? = some o := ⟨_, Array.getElem?_eq_getElem hj.2⟩
    have h1 := hf j hj.2
    simp only [ho, hj.1, Bool.not_true, Bool.false_or, Bool.and_eq_true] at h1
    simpa using h1.1.1
  · have hlt : j < ops.size := (Array.getElem?_eq_some_iff.1 hoj).1
    have h1 := hf j hlt
    have hb' : (blkA ops listed i).getD j false = false := by
      cases hx : (blkA ops listed i).getD j false
      · rfl
      · exact absurd ⟨hx, hlt⟩ hb
    simp only [hoj, hb', Bool.not_false, Bool.true_or, Bool.true_and, Bool.or_eq_true, beq_iff_eq, hji, false_or, hun, Bool.false_eq_true, Bool.and_eq_true] at h1
    exact h1
theorem wpX_prefix {Q : Act → World → Prop} {fuel : Nat} (hs : Region.noSelect ops = true) : ∀ (ord : List Nat) (listed : Array Bool) (a : Act) (w : World), lexP ops kd ord listed = true →
    wpMix P ops S kd (fun a w => wpX P ops S kd Q fuel (marks ord listed) a w) ord a w → wpX P ops S kd Q (ord.length + fuel) listed a w
  | [], _, _, _, _, h => by rw [List.length_nil, Nat.zero_add]; exact h 0
  | i :: rest, listed, a, w, hB, h => by
    simp only [lexP, Bool.and_eq_true] at hB
    rw [List.length_cons, show rest.length + 1 + fuel = rest.length + fuel + 1 by omega]
    exact wpX_step hs hB.1.1 hB.1.2 (opX_mono (fun a' w' hK => wpX_prefix hs rest (listed.setIfInBounds i true) a' w' hB.2 hK) h)
theorem wpX_two {Q : Act → World → Prop} {fuel : Nat} {listed : Array Bool} {a : Act} {w : World} (i j : Nat) (hB : (Region.ready .any ops listed == [i, j]) = true)
    (h1 : wpMix P ops S kd (fun a w => wpX P ops S kd Q fuel (listed.setIfInBounds i true) a w) [i] a w) (h2 : wpMix P ops S kd (fun a w => wpX P ops S kd Q fuel (listed.setIfInBounds j true) a w) [j] a w) : wpX P ops S kd Q (fuel + 1) listed a w := by
  have hr : Region.ready .any ops listed = [i, j] := by simpa using hB
  refine ⟨(fun h => by rw [hr] at h; cases h), fun k hk => ?_⟩
  rw [hr] at hk
  simp at hk
  rcases hk with rfl | rfl
  · exact opX_mono (fun a' w' hK => hK 0) h1
  · exact opX_mono (fun a' w' hK => hK 0) h2
theorem wpX_done {Q : Act → World → Prop} {listed : Array Bool} {a : Act} {w : World} (hB : (Region.ready .any ops listed).isEmpty = true) (h : ∀ n, Q a (w.drewN n)) : wpX P ops S kd Q 0 listed a w := ⟨by simpa using hB, h⟩
theorem wpX_world {Q : Act → World → Prop} {fuel : Nat} {listed : Array Bool} {a : Act} {w : World} (h : ∀ W, W = w → wpX P ops S kd Q fuel listed a W) : wpX P ops S kd Q fuel listed a w := h w rfl
theorem wp_region_X {id : Nat} {Q : Exit → Act → World → Prop} {a : Act} {w : World} {l : List Oper} (S : Nat → Prop) (kd : Nat → Nat) (hm : P.follows .mixedOrders = true)
    (h : wpX P l.toArray S kd (Q .normal) l.toArray.size (Array.replicate l.toArray.size false) a w) : (Code.region id l.toArray true).wp P Q a w := by
  refine wp_region_any hm ?_
  exact wpAny_of_X (Q := Q) _ _ _ _ h 1
end
end Go.Proofs.YtjcdknhejcbpiaaGreat.Mix
namespace Go.Proofs.YtjcdknhejcbpiaaGreat.Mix
open Go
set_option linter.unusedSimpArgs false
set_option linter.unusedVariables false
section
variable {P : Program} {ops : Array Oper} {S : Nat → Prop} {kd : Nat → Nat}
theorem wpX_mono {Q Q' : Act → World → Prop} (hQ : ∀ a w, Q a w → Q' a w) : ∀ (fuel : Nat) (listed : Array Bool) (a : Act) (w : World), wpX P ops S kd Q fuel listed a w → wpX P ops S kd Q' fuel listed a w
  | 0, _, _, _, h => ⟨h.1, fun n => hQ _ _ (h.2 n)⟩
  | fuel + 1, listed, a, w, h => ⟨fun e n => hQ _ _ (h.1 e n), fun i hi => opX_mono (fun a' w' hK => wpX_mono hQ fuel _ a' w' hK) (h.2 i hi)⟩
theorem wpX_three {Q : Act → World → Prop} {fuel : Nat} {listed : Array Bool} {a : Act} {w : World} (i j k : Nat) (hB : (Region.ready .any ops listed == [i, j, k]) = true)
    (h1 : wpMix P ops S kd (fun a w => wpX P ops S kd Q fuel (listed.setIfInBounds i true) a w) [i] a w) (h2 : wpMix P ops S kd (fun a w => wpX P ops S kd Q fuel (listed.setIfInBounds j true) a w) [j] a w)
    (h3 : wpMix P ops S kd (fun a w => wpX P ops S kd Q fuel (listed.setIfInBounds k true) a w) [k] a w) : wpX P ops S kd Q (fuel + 1) listed a w := by
  have hr : Region.ready .any ops listed = [i, j, k] := by simpa using hB
  refine ⟨(fun h => by rw [hr] at h; cases h), fun m hm => ?_⟩
  rw [hr] at hm
  simp at hm
  rcases hm with rfl | rfl | rfl
  · exact opX_mono (fun a' w' hK => hK 0) h1
  · exact opX_mono (fun a' w' hK => hK 0) h2
  · exact opX_mono (fun a' w' hK => hK 0) h3
theorem wp_region_XJ {id : Nat} {Q : Exit → Act → World → Prop} {a : Act} {w : World} {l : List Oper} (S : Nat → Prop) (kd : Nat → Nat) (J : Act → Act → World → Prop) (hm : P.follows .mixedOrders = true)
    (h1 : wpX P l.toArray S kd (J a) l.toArray.size (Array.replicate l.toArray.size false) a w) (h2 : ∀ a' w', J a a' w' → Q .normal a' w') : (Code.region id l.toArray true).wp P Q a w :=
  wp_region_X S kd hm (wpX_mono h2 _ _ _ _ h1)
end
end Go.Proofs.YtjcdknhejcbpiaaGreat.Mix
