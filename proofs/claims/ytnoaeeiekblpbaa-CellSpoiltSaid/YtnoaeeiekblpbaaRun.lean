/- run: calls on a bank, one after another. -/
import Derived.Test.YtnoaeeiekblpbaaCellD
namespace Go.Proofs.Ytnoaeeiekblpbaa
open Go.RowKit
set_option linter.unusedVariables false

def Ran (n : Nat) (xs : List StepD) (w : World) (e : Ending) (w' : World) : Prop :=
  ∃ p cb lv, e = .returned (.pointer (some ⟨p, 0, none⟩)) ∧ Bank w.heap.size w' p cb lv (runS n xs).vs (runS n xs).lg ∧ Below w.heap.size w w'

set_option maxHeartbeats 1000000 in
theorem run_any (n : Nat) (hn1 : 1 ≤ n) (hn2 : n ≤ 4096) (a : Option Addr) (nl cl : Nat) (xs : List StepD) (w : World) (hx : InSteps w a nl xs) (hl : nl ≤ 200) :
    Calls Try.prog 19 #[.int .i64 n, .slice a nl cl] w (Ran n xs w) := by
  go_enter Try.func19, Try.ntmps19
  go_wp2_with fail
  refine (new_ok w.heap.size n hn1 hn2 w (Nat.le_refl _)).mono ?_
  rintro e w1 ⟨p, cb, rfl, hbank, hch, hp, hcb⟩
  go_wp2_with fail
  have hB0 := hch.below (B := w.heap.size) (Nat.le_refl _) (fun _ h => h.elim)
  go_loopw [7] (fun i wr => ∃ k : Nat, k ≤ nl ∧ i = .int .i64 k ∧ ∃ lv, Bank w.heap.size wr p cb lv (runS n (xs.take k)).vs (runS n (xs.take k)).lg ∧ Below w.heap.size w wr) (fun i _ => nl - (intOf i).toNat)
  case atStart => exact ⟨0, Nat.zero_le _, rfl, _, hbank, hB0⟩
  case round =>
    obtain ⟨k, hk, rfl, lv, hb, hbel⟩ := hrel
    by_cases hlt : k < nl
    · obtain ⟨b, off, rfl, hbl, hcell⟩ := hx.2.2 (by omega)
      have hxl := hx.1
      obtain ⟨x, hxk⟩ : ∃ x, xs[k]? = some x := ⟨_, List.getElem?_eq_getElem (by omega)⟩
      have hok := hx.2.1 x (List.mem_of_getElem? hxk)
      have c0 := (hbel.cell (p := ⟨b, off + k * 5, none⟩) hbl).trans (hcell k 0 x _ hxk rfl)
      have c1 := (hbel.cell (p := ⟨b, off + k * 5 + 1, none⟩) hbl).trans (hcell k 1 x _ hxk rfl)
      have c2 := (hbel.cell (p := ⟨b, off + k * 5 + 2, none⟩) hbl).trans (hcell k 2 x _ hxk rfl)
      have c3 := (hbel.cell (p := ⟨b, off + k * 5 + 3, none⟩) hbl).trans (hcell k 3 x _ hxk rfl)
      have c4 := (hbel.cell (p := ⟨b, off + k * 5 + 4, none⟩) hbl).trans (hcell k 4 x _ hxk rfl)
      have hsn : runS n (xs.take (k + 1)) = (runS n (xs.take k)).step x := by
        rw [List.take_succ_eq_append_getElem (by omega), runS_snoc]
        rw [List.getElem?_eq_getElem (by omega)] at hxk
        rw [Option.some.inj hxk]
      have hlen : (runS n (xs.take k)).lg.length < 1000000 := by
        have := (runS_len n (xs.take k)).2
        have := List.length_take_le k xs
        omega
      have Hsn := hid hsn
      have Hx := hid hxk
      have Hok := hid hok
      clear hsn hxk hok hcell hxl hx
      by_cases h0 : x.d = 0
      · have h0' : (x.d == 0) = true := by simpa using h0
        have H0 := hid h0
        clear h0
        go_wp2_with fail
        refine calls_world fun W hW => ?_
        have cW : Ch (fun _ => False) wr W := by rw [hW]; repeat (first | exact Ch.refl _ _ | refine Ch.drewN ?_ _ | refine Ch.alloc ?_ _ | (refine Ch.setCell ?_ (fun h => by simp at h) _))
        clear hW
        refine (load_any w.heap.size p cb lv (runS n (xs.take k)) x.t x.c W (hb.ch cW id id (fun _ _ => id)) hlen (Nat.le_trans hbel.size cW.size)).mono ?_
        rintro e w2 ⟨rfl, hs⟩
        have hbel' := hs.below (hb.ch cW id id (fun _ _ => id)) (Nat.le_trans hbel.size cW.size)
        have hstep : (runS n (xs.take k)).step x = (runS n (xs.take k)).doLoad x.t x.c := by simp [BS.step, H0.out]
        have Hs := hid hs
        have Hstep := hid hstep
        clear hs hstep
        go_wp2_with fail
        go_roundw
        case rel =>
          obtain ⟨lv', hb', _⟩ := Hs.out
          rw [← Hstep.out, ← Hsn.out] at hb'
          exact ⟨k + 1, by omega, by go_num, lv', hb', (hbel.trans (cW.below hbel.size (fun _ h => h.elim))).trans hbel'⟩
        case measure => simp [intOf]; omega
      · have h0' : (x.d == 0) = false := by simpa using h0
        have H0 := hid h0
        clear h0
        by_cases h1 : x.d = 1
        · have h1' : (x.d == 1) = true := by simpa using h1
          have H1 := hid h1
          clear h1
          go_wp2_with fail
          refine calls_world fun W hW => ?_
          have cW : Ch (fun _ => False) wr W := by rw [hW]; repeat (first | exact Ch.refl _ _ | refine Ch.drewN ?_ _ | refine Ch.alloc ?_ _ | (refine Ch.setCell ?_ (fun h => by simp at h) _))
          clear hW
          refine (store_any w.heap.size p cb lv (runS n (xs.take k)) x.t x.c W (hb.ch cW id id (fun _ _ => id)) hlen (Nat.le_trans hbel.size cW.size) x.v Hok.out.2.2.1).mono ?_
          rintro e w2 ⟨rfl, hs⟩
          have hbel' := hs.below (hb.ch cW id id (fun _ _ => id)) (Nat.le_trans hbel.size cW.size)
          have hstep : (runS n (xs.take k)).step x = (runS n (xs.take k)).doStore x.t x.c x.v := by simp [BS.step, H1.out]
          have Hs := hid hs
          have Hstep := hid hstep
          clear hs hstep
          go_wp2_with fail
          go_roundw
          case rel =>
            obtain ⟨lv', hb', _⟩ := Hs.out
            rw [← Hstep.out, ← Hsn.out] at hb'
            exact ⟨k + 1, by omega, by go_num, lv', hb', (hbel.trans (cW.below hbel.size (fun _ h => h.elim))).trans hbel'⟩
          case measure => simp [intOf]; omega
        · have h1' : (x.d == 1) = false := by simpa using h1
          have H1 := hid h1
          clear h1
          by_cases h2 : x.d = 2
          · have h2' : (x.d == 2) = true := by simpa using h2
            have H2 := hid h2
            clear h2
            go_wp2_with fail
            refine calls_world fun W hW => ?_
            have cW : Ch (fun _ => False) wr W := by rw [hW]; repeat (first | exact Ch.refl _ _ | refine Ch.drewN ?_ _ | refine Ch.alloc ?_ _ | (refine Ch.setCell ?_ (fun h => by simp at h) _))
            clear hW
            refine (add_any w.heap.size p cb lv (runS n (xs.take k)) x.t x.c W (hb.ch cW id id (fun _ _ => id)) hlen (Nat.le_trans hbel.size cW.size) x.v).mono ?_
            rintro e w2 ⟨rfl, hs⟩
            have hbel' := hs.below (hb.ch cW id id (fun _ _ => id)) (Nat.le_trans hbel.size cW.size)
            have hstep : (runS n (xs.take k)).step x = (runS n (xs.take k)).doAdd x.t x.c x.v := by simp [BS.step, H2.out]
            have Hs := hid hs
            have Hstep := hid hstep
            clear hs hstep
            go_wp2_with fail
            go_roundw
            case rel =>
              obtain ⟨lv', hb', _⟩ := Hs.out
              rw [← Hstep.out, ← Hsn.out] at hb'
              exact ⟨k + 1, by omega, by go_num, lv', hb', (hbel.trans (cW.below hbel.size (fun _ h => h.elim))).trans hbel'⟩
            case measure => simp [intOf]; omega
          · have h2' : (x.d == 2) = false := by simpa using h2
            have H2 := hid h2
            clear h2
            by_cases h3 : x.d = 3
            · have h3' : (x.d == 3) = true := by simpa using h3
              have H3 := hid h3
              clear h3
              go_wp2_with fail
              refine calls_world fun W hW => ?_
              have cW : Ch (fun _ => False) wr W := by rw [hW]; repeat (first | exact Ch.refl _ _ | refine Ch.drewN ?_ _ | refine Ch.alloc ?_ _ | (refine Ch.setCell ?_ (fun h => by simp at h) _))
              clear hW
              refine (swap_any w.heap.size p cb lv (runS n (xs.take k)) x.t x.c W (hb.ch cW id id (fun _ _ => id)) hlen (Nat.le_trans hbel.size cW.size) x.v Hok.out.2.2.1).mono ?_
              rintro e w2 ⟨rfl, hs⟩
              have hbel' := hs.below (hb.ch cW id id (fun _ _ => id)) (Nat.le_trans hbel.size cW.size)
              have hstep : (runS n (xs.take k)).step x = (runS n (xs.take k)).doSwap x.t x.c x.v := by simp [BS.step, H3.out]
              have Hs := hid hs
              have Hstep := hid hstep
              clear hs hstep
              go_wp2_with fail
              go_roundw
              case rel =>
                obtain ⟨lv', hb', _⟩ := Hs.out
                rw [← Hstep.out, ← Hsn.out] at hb'
                exact ⟨k + 1, by omega, by go_num, lv', hb', (hbel.trans (cW.below hbel.size (fun _ h => h.elim))).trans hbel'⟩
              case measure => simp [intOf]; omega
            · have h3' : (x.d == 3) = false := by simpa using h3
              have H3 := hid h3
              clear h3
              go_wp2_with fail
              refine calls_world fun W hW => ?_
              have cW : Ch (fun _ => False) wr W := by rw [hW]; repeat (first | exact Ch.refl _ _ | refine Ch.drewN ?_ _ | refine Ch.alloc ?_ _ | (refine Ch.setCell ?_ (fun h => by simp at h) _))
              clear hW
              refine (cas_any w.heap.size p cb lv (runS n (xs.take k)) x.t x.c W (hb.ch cW id id (fun _ _ => id)) hlen (Nat.le_trans hbel.size cW.size) x.o x.v Hok.out.2.2.1).mono ?_
              rintro e w2 ⟨rfl, hs⟩
              have hbel' := hs.below (hb.ch cW id id (fun _ _ => id)) (Nat.le_trans hbel.size cW.size)
              have hstep : (runS n (xs.take k)).step x = (runS n (xs.take k)).doCas x.t x.c x.o x.v := by simp [BS.step, H0.out, H1.out, H2.out, H3.out]
              have Hs := hid hs
              have Hstep := hid hstep
              clear hs hstep
              go_wp2_with fail
              go_roundw
              case rel =>
                obtain ⟨lv', hb', _⟩ := Hs.out
                rw [← Hstep.out, ← Hsn.out] at hb'
                exact ⟨k + 1, by omega, by go_num, lv', hb', (hbel.trans (cW.below hbel.size (fun _ h => h.elim))).trans hbel'⟩
              case measure => simp [intOf]; omega
    · have hxl := hx.1
      have : k = nl := by omega
      subst this
      go_wp2_with fail
      go_ret
      refine ⟨p, cb, lv, rfl, ?_, hbel⟩
      rw [List.take_of_length_le (by omega)] at hb
      exact hb
end Go.Proofs.Ytnoaeeiekblpbaa
