/- CellWins: the first comparison wins: the walk. -/
import Derived.Test.YtnoaeeiekblpbaaCellC
import Derived.Test.YtnoaeeiekblpbaaFrame
namespace Go.Proofs.Ytnoaeeiekblpbaa
open Go.RowKit
set_option linter.unusedVariables false

def first (ds : List Int) : Nat → Int
  | 0 => 0
  | k + 1 => if first ds k = 0 then lk ds k else first ds k
theorem first_keep {ds : List Int} {k : Nat} (h : lk ds k = 0) : first ds (k + 1) = first ds k := by
  show (if first ds k = 0 then lk ds k else first ds k) = first ds k
  split
  · rename_i h'; rw [h, h']
  · rfl
theorem first_bd {ds : List Int} {n : Nat} (h : ∀ i, i < n → 0 ≤ lk ds i ∧ lk ds i < 18446744073709551616) : ∀ k, k ≤ n → 0 ≤ first ds k ∧ first ds k < 18446744073709551616
  | 0, _ => ⟨Int.le_refl _, (by decide : (0 : Int) < 18446744073709551616)⟩
  | k + 1, hk => by
    show 0 ≤ (if first ds k = 0 then lk ds k else first ds k) ∧ (if first ds k = 0 then lk ds k else first ds k) < 18446744073709551616
    split
    · exact h k (by omega)
    · exact first_bd h k (by omega)

set_option maxHeartbeats 1000000 in
theorem wins_walk (ad : Option Addr) (nd cd : Nat) (ds : List Int) (w : World) (hd : InInts .u64 w ad nd ds) :
    Calls Try.prog 5 #[.slice ad nd cd] w fun e w' => e = .returned (.bool true) ∧ Below w.heap.size w w' := by
  by_cases hlong : 100 < nd
  · go_enter Try.func5, Try.ntmps5
    go_wp2_with fail
    go_ret
    exact ⟨rfl, Below.refl _ _⟩
  · have hlong' : nd ≤ 100 := by omega
    go_enter Try.func5, Try.ntmps5
    go_wp2_with fail
    refine (new_ok w.heap.size 3 (by omega) (by omega) w (Nat.le_refl _)).mono ?_
    rintro e w1 ⟨p, cb, rfl, hbank, hch, hp, hcb⟩
    go_wp2_with fail
    have hB0 := hch.below (B := w.heap.size) (Nat.le_refl _) (fun _ h => h.elim)
    go_loopw [5, 6] (fun sm i wr => ∃ k : Nat, k ≤ nd ∧ i = .int .i64 k ∧ sm = .int .u64 (first ds k) ∧ ∃ lv lg, Bank w.heap.size wr p cb lv [0, 0, first ds k] lg ∧ lg.length ≤ k ∧ Below w.heap.size w wr) (fun _ i _ => nd - (intOf i).toNat)
    case atStart => exact ⟨0, Nat.zero_le _, rfl, rfl, _, _, hbank, by simp, hB0⟩
    case round =>
      obtain ⟨k, hk, rfl, rfl, lv, lg, hb, hl, hbel⟩ := hrel
      have hlk : lk [0, 0, first ds k] 2 = first ds k := rfl
      by_cases hlt : k < nd
      · obtain ⟨b, off, rfl, hbl, hcell⟩ := hd.2.2 (by omega)
        have hck := (hbel.cell (p := ⟨b, off + k, none⟩) hbl).trans (hcell k hlt)
        have hwf := wf_u64 (hd.mem hlt)
        have hfine : (⟨[0, 0, first ds k], lg⟩ : BS).fine ((k : Int) % 16) 2 := ⟨by omega, by omega, by omega, by simp⟩
        by_cases hz : lk ds k = 0
        · have hz' : (lk ds k == 0) = true := by simpa using hz
          have Hz := hid hz
          clear hz
          go_wp2_with fail
          go_roundw
          case rel => exact ⟨k + 1, by omega, by go_num, by rw [first_keep Hz.out], lv, lg, by rw [first_keep Hz.out]; exact hb, by omega, hbel⟩
          case measure => simp [intOf]; omega
        · have hz' : (lk ds k == 0) = false := by simpa using hz
          by_cases hf : first ds k = 0
          · have hf' : (first ds k == 0) = true := by simpa using hf
            have Hf := hid hf
            clear hf
            go_wp2_with fail
            refine (cas_hit' w.heap.size p cb lv ⟨[0, 0, first ds k], lg⟩ _ 2 0 (lk ds k) wr hb hfine (by simp only; omega) hbel.size hwf Hf.out).mono ?_
            rintro e w2 ⟨rfl, hs⟩
            have hbel' := hs.below hb hbel.size
            have hck2 := (hbel'.cell (p := ⟨b, off + k, none⟩) hbl).trans hck
            obtain ⟨lv', hb', hc', hf2⟩ := hs
            go_wp2_with fail
            go_roundw
            case rel => exact ⟨k + 1, by omega, by go_num, by simp [first, Hf.out], lv', _, by simpa [first, Hf.out, BS.setlog] using hb', by simp; omega, hbel.trans hbel'⟩
            case measure => simp [intOf]; omega
          · have hf' : (first ds k == 0) = false := by simpa using hf
            go_wp2_with fail
            refine (cas_miss' w.heap.size p cb lv ⟨[0, 0, first ds k], lg⟩ _ 2 0 (lk ds k) wr hb hfine (by simp only; omega) hbel.size hf).mono ?_
            rintro e w2 ⟨rfl, hs⟩
            have hbel' := hs.below hb hbel.size
            obtain ⟨lv', hb', hc', hf2⟩ := hs
            go_wp2_with fail
            go_roundw
            case rel => exact ⟨k + 1, by omega, by go_num, by simp [first, hf], lv', _, by simpa [first, hf, BS.log] using hb', by simp; omega, hbel.trans hbel'⟩
            case measure => simp [intOf]; omega
      · have : k = nd := by omega
        subst this
        have heq : (first ds k == first ds k) = true := by simp
        go_wp2_with fail
        refine (peek_ok w.heap.size p cb lv ⟨[0, 0, first ds k], lg⟩ 2 wr hb (by omega) (by simp)).mono ?_
        rintro e w2 ⟨rfl, rfl⟩
        go_wp2_with fail
        go_ret
        exact ⟨rfl, hbel⟩
end Go.Proofs.Ytnoaeeiekblpbaa
