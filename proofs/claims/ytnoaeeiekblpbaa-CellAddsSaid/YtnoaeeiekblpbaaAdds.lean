/- CellAdds: no addition is lost: the walk. -/
import Derived.Test.YtnoaeeiekblpbaaCellC
import Derived.Test.YtnoaeeiekblpbaaFrame
namespace Go.Proofs.Ytnoaeeiekblpbaa
open Go.RowKit
set_option linter.unusedVariables false

def sumTo (ds : List Int) : Nat → Int
  | 0 => 0
  | k + 1 => w64 (sumTo ds k + lk ds k)

set_option maxHeartbeats 1000000 in
theorem adds_walk (at_ : Option Addr) (nt ct : Nat) (ts : List Int) (ad : Option Addr) (nd cd : Nat) (ds : List Int) (w : World) (ht : InInts .u8 w at_ nt ts) (hd : InInts .u64 w ad nd ds) :
    Calls Try.prog 4 #[.slice at_ nt ct, .slice ad nd cd] w fun e w' => e = .returned (.bool true) ∧ Below w.heap.size w w' := by
  by_cases hlong : 100 < nd
  · go_enter Try.func4, Try.ntmps4
    go_wp2_with fail
    go_ret
    exact ⟨rfl, Below.refl _ _⟩
  · have hlong' : nd ≤ 100 := by omega
    go_enter Try.func4, Try.ntmps4
    go_wp2_with fail
    refine (new_ok w.heap.size 1 (by omega) (by omega) w (Nat.le_refl _)).mono ?_
    rintro e w1 ⟨p, cb, rfl, hbank, hch, hp, hcb⟩
    go_wp2_with fail
    have hB0 := hch.below (B := w.heap.size) (Nat.le_refl _) (fun _ h => h.elim)
    have hdwf := hd.2.1
    go_loopw [7, 8] (fun sm i wr => ∃ k : Nat, k ≤ nd ∧ i = .int .i64 k ∧ sm = .int .u64 (sumTo ds k) ∧ ∃ lv lg, Bank w.heap.size wr p cb lv [sumTo ds k] lg ∧ lg.length = k ∧ Below w.heap.size w wr) (fun _ i _ => nd - (intOf i).toNat)
    case atStart => exact ⟨0, Nat.zero_le _, rfl, rfl, _, _, hbank, rfl, hB0⟩
    case round =>
      obtain ⟨k, hk, rfl, rfl, lv, lg, hb, hl, hbel⟩ := hrel
      by_cases hlt : k < nd
      · obtain ⟨b, off, rfl, hbl, hcell⟩ := hd.2.2 (by omega)
        have hck := (hbel.cell (p := ⟨b, off + k, none⟩) hbl).trans (hcell k hlt)
        have hw := w64_wrap (sumTo ds k + lk ds k)
        have hok : (⟨[sumTo ds k], lg⟩ : BS).fine = fun t c => 0 ≤ t ∧ t < 16 ∧ 0 ≤ c ∧ c < 1 := by funext t c; simp [BS.fine]
        have Hok := hid hok
        have Hl := hid hl
        clear hok hl
        by_cases hth : k < nt
        · obtain ⟨b', off', rfl, hbl', hcell'⟩ := ht.2.2 (by omega)
          have hck' := (hbel.cell (p := ⟨b', off' + k, none⟩) hbl').trans (hcell' k hth)
          have hb8 : 0 ≤ lk ts k ∧ lk ts k < 256 := wf_u8 (ht.2.1 _ (by have := ht.1; rw [lk, List.getD_eq_getElem?_getD, List.getElem?_eq_getElem (by omega)]; exact List.getElem_mem _))
          obtain ⟨hb80, hb81⟩ := hb8
          go_wp2_with fail
          refine (add_ok w.heap.size p cb lv ⟨[sumTo ds k], lg⟩ _ 0 (lk ds k) wr hb (by rw [Hok.out]; exact ⟨by omega, by omega, by omega, by omega⟩) (by have := Hl.out; simp only; omega) hbel.size).mono ?_
          rintro e w2 ⟨rfl, lv', hb', hc', hf'⟩
          have hlk : lk [sumTo ds k] 0 = sumTo ds k := rfl
          have hne : (w64 (sumTo ds k + lk ds k) != w64 (sumTo ds k + lk ds k)) = false := by simp
          go_wp2_with fail
          go_roundw
          case rel =>
            refine ⟨k + 1, by omega, by go_num, rfl, lv', _, hb', by have := Hl.out; simpa [BS.add, BS.setlog] using this, hbel.trans (hc'.below hbel.size (fun j hj => ?_))⟩
            rcases hj with rfl | rfl | hj
            · exact hb.bp
            · exact hb.bc
            · exact (hb.hl.lt j hj).1
          case measure => simp [intOf]; omega
        · go_wp2_with fail
          refine (add_ok w.heap.size p cb lv ⟨[sumTo ds k], lg⟩ _ 0 (lk ds k) wr hb (by rw [Hok.out]; exact ⟨by omega, by omega, by omega, by omega⟩) (by have := Hl.out; simp only; omega) hbel.size).mono ?_
          rintro e w2 ⟨rfl, lv', hb', hc', hf'⟩
          have hlk : lk [sumTo ds k] 0 = sumTo ds k := rfl
          have hne : (w64 (sumTo ds k + lk ds k) != w64 (sumTo ds k + lk ds k)) = false := by simp
          go_wp2_with fail
          go_roundw
          case rel =>
            refine ⟨k + 1, by omega, by go_num, rfl, lv', _, hb', by have := Hl.out; simpa [BS.add, BS.setlog] using this, hbel.trans (hc'.below hbel.size (fun j hj => ?_))⟩
            rcases hj with rfl | rfl | hj
            · exact hb.bp
            · exact hb.bc
            · exact (hb.hl.lt j hj).1
          case measure => simp [intOf]; omega
      · have : k = nd := by omega
        subst this
        have hlk : lk [sumTo ds k] 0 = sumTo ds k := rfl
        have heq : (sumTo ds k == sumTo ds k) = true := by simp
        go_wp2_with fail
        refine (peek_ok w.heap.size p cb lv ⟨[sumTo ds k], lg⟩ 0 wr hb (by omega) (by simp)).mono ?_
        rintro e w2 ⟨rfl, rfl⟩
        go_wp2_with fail
        go_ret
        exact ⟨rfl, hbel⟩
end Go.Proofs.Ytnoaeeiekblpbaa
