/- StoreKeeps. -/
import Derived.Test.YtefpabicgefciaaKeepH
import Derived.Test.YtefpabicgefciaaKeepK
import Derived.Test.YtefpabicgefciaaCellF
namespace Go.Proofs.Ytefpabicgefciaa
open Go.RowKit
set_option linter.unusedVariables false
set_option linter.unusedSimpArgs false
set_option linter.unusedSectionVars false

def zRv : List Value := [.int .i64 0, .int .u64 0, .int .i64 0, .int .i64 0, .int .i64 0, .int .i64 0, .slice none 0 0, .slice none 0 0]
theorem ck_keep : ckE ⟨((4 : Nat) : Int), 1, 0, 0, ((1 : Nat) : Int), 1, 1, ⟨#[]⟩⟩ = 0 := by
  unfold ckE
  rw [if_neg (fun h => h ⟨by decide, by decide, by decide, by decide, by decide, by decide, by decide⟩), if_neg (by decide), if_neg]
  show ¬ vdB (bs ⟨#[]⟩) = false
  rw [vdB_true (l := bs ⟨#[]⟩) (Vd.nil rfl)]
  decide
theorem own_one {w : World} {B g : Nat} (h : Blk w g 38 #[.int .i64 0, .int .u64 0, .int .i64 0, .int .i64 0, .int .i64 0, .int .i64 0, .slice none 0 0, .slice none 0 0]) (hB : B ≤ g) : w.ownsRow B 38 8 (.slice (some ⟨g, 0, none⟩) 1 1) 1 zRv :=
  ⟨rfl, .inr ⟨g, 1, _, rfl, hB, h, Nat.le_refl _, by decide, rfl, rfl⟩⟩
theorem Mem.mem_each {B : Nat} {w0 w : World} {L : List Res} (h : Mem B w0 L w) {r : Res} (hr : r ∈ L) : r.holds w := by
  obtain ⟨i, hi⟩ := List.getElem?_of_mem hr
  exact h.each i r hi
theorem own_mk' {w : World} {B n c : Nat} {A : Option Addr} {l : List Mk} (h : w.ownsRow B 45 3 (.slice A n c) n (mkCells l)) : (A = none → c = 0) ∧ InMk w A n l := by
  obtain ⟨A', c', hv, _, hz, hi⟩ := own_mk h
  injection hv with h1 _ h3
  subst h1 h3
  exact ⟨hz, hi⟩
theorem own_pc' {w : World} {B n c : Nat} {A : Option Addr} {l : List Pc} (h : w.ownsRow B 47 3 (.slice A n c) n (pcCells l)) : (A = none → c = 0) ∧ InPc w A n l := by
  obtain ⟨A', c', hv, _, hz, hi⟩ := own_pc h
  injection hv with h1 _ h3
  subst h1 h3
  exact ⟨hz, hi⟩
theorem pub_last (rs : List Rec) (h : ∀ (i : Nat) (r : Rec), rs[i]? = some r → r.x.num = (i : Int) + 1) : (pubCells zRv rs)[rs.length * 8]? = some (.int .i64 (rs.length : Int)) := by
  cases hl : rs.length with
  | zero =>
    have : rs = [] := List.eq_nil_of_length_eq_zero hl
    subst this
    rfl
  | succ m =>
    have hr : rs[m]? = some (rs[m]'(by omega)) := List.getElem?_eq_getElem (by omega)
    have t := pub_get (z := zRv) rfl hr 0 _ rfl
    rw [Nat.add_zero] at t
    rw [t, h m _ hr]
    push_cast
    rfl
theorem snoc_get {l : List Rec} {x q : Rec} {i : Nat} (h : (l ++ [x])[i]? = some q) : (i = l.length ∧ x = q) ∨ l[i]? = some q := by
  by_cases hi : i < l.length
  · rw [List.getElem?_append_left hi] at h; exact .inr h
  · have hlt := (List.getElem?_eq_some_iff.1 h).1
    simp at hlt
    have : i = l.length := by omega
    subst this
    simp at h
    exact .inl ⟨rfl, h⟩
theorem own_apart {w : World} {B B' e e' s s' n m : Nat} {u v : Value} {xs ys : List Value} (h : w.ownsRow B e s u n xs) (h' : w.ownsRow B' e' s' v m ys) (ht : e ≠ e') (k : Nat) (hu : u.ownBlock = some k) : ¬ v.ownBlock = some k := by
  intro hv
  rcases h.2 with ⟨rfl, _⟩ | ⟨g, c, cur, rfl, _, hg, _⟩
  · simp [Value.ownBlock] at hu
  · rcases h'.2 with ⟨rfl, _⟩ | ⟨g', c', cur', rfl, _, hg', _⟩
    · simp [Value.ownBlock] at hv
    · simp only [Value.ownBlock, Option.some.injEq] at hu hv
      subst hu
      subst hv
      rw [hg] at hg'
      injection hg' with hg'
      injection hg' with _ h2
      exact ht h2
/-- A store stands, nothing was published. -/
theorem keep_new {w w1 : World} {e : Ending} (h : SnOut 4 1 1 0 1 1 w e w1) : ∃ sb rv, e = .returned (.tuple #[.pointer (some ⟨sb, 0, none⟩), .int .i64 0]) ∧ Mem w.heap.size w (keepL w.heap.size sb rv (.slice none 0 0) zRv []) w1 := by
  obtain ⟨sb, p, cb, ab, lb, mb, qb, eb, pb, rvb, cs, rfl, hS, _, _, _, _, _, hR, hc, hz1, hz2⟩ := h
  refine ⟨sb, .slice (some ⟨rvb, 0, none⟩) 1 1, rfl, ?_⟩
  have t := (Mem.nil (Nat.le_refl _) (Below.refl w.heap.size w)).addThree hc (stR sb (.slice (some ⟨rvb, 0, none⟩) 1 1)) (rowR w.heap.size 38 8 1 (.slice (some ⟨rvb, 0, none⟩) 1 1) zRv) (rowR w.heap.size 38 8 0 (.slice none 0 0) [])
    ⟨cs, hS.blk, hS.c23⟩ (own_one hR hz2) (World.ownsRow_nil _ _ _ _) (fun k hk => by rw [show k = sb from hk]; exact hz1) (fun k hk => by simp only [rowR, Value.ownBlock, Option.some.injEq] at hk; omega) (fun k hk => by simp [rowR, Value.ownBlock] at hk)
    (fun k h1 h2 => by
      simp only [rowR, Value.ownBlock, Option.some.injEq] at h2
      rw [show k = sb from h1] at h2
      exact Blk.ne hR hS.blk (by decide) h2) (fun k _ h2 => by simp [rowR, Value.ownBlock] at h2) (fun k _ h2 => by simp [rowR, Value.ownBlock] at h2)
  exact t
/-- Where the first loop stands. -/
structure KeepAt (w : World) (n sb : Nat) (rv wv : Value) (rs : List Rec) (W : World) : Prop where
  le : rs.length ≤ n
  mem : Mem w.heap.size w (keepL w.heap.size sb rv wv zRv rs) W
  ok : ∀ (i : Nat) (r : Rec), rs[i]? = some r → r.x.num = (i : Int) + 1 ∧ r.ms.length ≤ 20 ∧ r.ds.length ≤ 20 ∧ r.tms.length = r.ms.length ∧ r.tds.length = r.ds.length
/-- A revision that is about to be published. -/
structure Tmp (w w' : World) (rb : Nat) (x : Rv) (tm td : Value) (ms : List Mk) (ds : List Pc) : Prop where
  b : Blk w' rb 38 (rvA x tm td)
  m : w'.ownsRow w.heap.size 45 3 tm ms.length (mkCells ms)
  d : w'.ownsRow w.heap.size 47 3 td ds.length (pcCells ds)
  ch : Ch (fun _ => False) w w'
  z : w.heap.size ≤ rb
set_option maxRecDepth 100000 in
set_option maxHeartbeats 4000000 in
theorem keeps_walk (a : Option Addr) (n c : Nat) (l : List InV) (w : World) (h : InRevs w a n l) : Calls Try.prog 3 #[.slice a n c] w fun e w' => e = .returned (.bool true) ∧ Below w.heap.size w w' := by
  have hI := hid h
  have hl := hid h.1
  clear h
  go_enter Try.func3, Try.ntmps3
  by_cases hn : 30 < n
  · have e1 : decide (30 < n) = true := decide_eq_true hn
    have e2 : decide ((30 : Int) < (n : Int)) = true := decide_eq_true (by omega)
    go_wp2_with fail
    go_ret
    exact ⟨rfl, Below.refl _ _⟩
  have e1 : decide (30 < n) = false := decide_eq_false hn
  have e2 : decide ((30 : Int) < (n : Int)) = false := decide_eq_false (by omega)
  go_wp2_with fail
  refine (snew0 4 1 1 0 1 1 ck_keep w).mono ?_
  rintro e w1 hsn
  obtain ⟨sb, rv, rfl, hM⟩ := keep_new hsn
  have HM := hid hM
  clear hsn hM
  go_wp2_with fail
  go_loopw [5, 6] (fun wv i W => ∃ (rs : List Rec) (rv : Value), i = .int .i64 rs.length ∧ KeepAt w n sb rv wv rs W) (fun _ i _ => n - (intOf i).toNat)
  case atStart => exact ⟨[], rv, rfl, Nat.zero_le _, HM.out, fun i r h => by simp at h⟩
  case round =>
    clear HM
    obtain ⟨rs, rv', rfl, hK⟩ := hrel
    obtain ⟨Aw, cw, hwv, _⟩ := own_slice (hK.mem.each 2 _ rfl)
    subst hwv
    obtain ⟨Ar, cr, hrv, _⟩ := own_slice (hK.mem.each 1 _ rfl)
    subst hrv
    have HK := hid hK
    clear hK
    obtain ⟨k, hk⟩ : ∃ k, k = rs.length := ⟨_, rfl⟩
    rw [← hk]
    have HKL := hid hk
    clear hk
    by_cases hlt : k < n
    · obtain ⟨r, hr⟩ : ∃ r, l[k]? = some r := ⟨_, List.getElem?_eq_getElem (by rw [hl.out]; exact hlt)⟩
      have hrow := hI.out.keep (HK.out.mem.ch rfl)
      obtain ⟨b, off, rfl, hb, hcell⟩ := hrow.2.2 (by omega)
      have HR := hid (hrow.2.1 r (List.mem_of_getElem? hr))
      have c0 : wr.cell? ⟨b, off + k * 8, none⟩ = some (.int .i64 r.x.num) := by have := hcell k 0 r _ hr rfl; rwa [← Nat.add_assoc] at this
      have c1 : wr.cell? ⟨b, off + k * 8 + 1, none⟩ = some (.int .u64 r.x.at') := by have := hcell k 1 r _ hr rfl; rwa [← Nat.add_assoc] at this
      have c2 : wr.cell? ⟨b, off + k * 8 + 2, none⟩ = some (.int .i64 r.x.h) := by have := hcell k 2 r _ hr rfl; rwa [← Nat.add_assoc] at this
      have c3 : wr.cell? ⟨b, off + k * 8 + 3, none⟩ = some (.int .i64 r.x.b) := by have := hcell k 3 r _ hr rfl; rwa [← Nat.add_assoc] at this
      have c4 : wr.cell? ⟨b, off + k * 8 + 4, none⟩ = some (.int .i64 r.x.r) := by have := hcell k 4 r _ hr rfl; rwa [← Nat.add_assoc] at this
      have c5 : wr.cell? ⟨b, off + k * 8 + 5, none⟩ = some (.int .i64 r.x.l) := by have := hcell k 5 r _ hr rfl; rwa [← Nat.add_assoc] at this
      have c6 : wr.cell? ⟨b, off + k * 8 + 6, none⟩ = some (.slice r.am r.n1 r.c1) := by have := hcell k 6 r _ hr rfl; rwa [← Nat.add_assoc] at this
      have c7 : wr.cell? ⟨b, off + k * 8 + 7, none⟩ = some (.slice r.ad r.n2 r.c2) := by have := hcell k 7 r _ hr rfl; rwa [← Nat.add_assoc] at this
      clear hcell hrow
      have Hr := hid hr
      clear hr
      have d1 : decide (k < n) = true := decide_eq_true hlt
      by_cases h1 : 20 < r.n1
      · have e3 : decide (20 < r.n1) = true := decide_eq_true h1
        have e4 : decide ((20 : Int) < (r.n1 : Int)) = true := decide_eq_true (by omega)
        go_wp2_with fail
        go_ret
        exact ⟨rfl, HK.out.mem.bel⟩
      have e3 : decide (20 < r.n1) = false := decide_eq_false h1
      have e4 : decide ((20 : Int) < (r.n1 : Int)) = false := decide_eq_false (by omega)
      by_cases h2 : 20 < r.n2
      · have e5 : decide (20 < r.n2) = true := decide_eq_true h2
        have e6 : decide ((20 : Int) < (r.n2 : Int)) = true := decide_eq_true (by omega)
        go_wp2_with fail
        go_ret
        exact ⟨rfl, HK.out.mem.bel⟩
      have e5 : decide (20 < r.n2) = false := decide_eq_false h2
      have e6 : decide ((20 : Int) < (r.n2 : Int)) = false := decide_eq_false (by omega)
      go_wp2_with fail
      obtain ⟨SS, hSS⟩ : ∃ S : Nat → Prop, ∀ k, S k ↔ k < wr.heap.size := ⟨_, fun _ => Iff.rfl⟩
      have HS := hid hSS
      have hS1 : Mix.Has SS b := (hSS _).2 hb
      clear hSS
      have CC := hid (Ch.refl (fun _ => False) wr)
      refine Mix.wp_region_XJ SS (fun i => ([1, 1, 1, 1, 1, 1, 4, 1, 1, 1, 1, 4, 3, 1, 1, 1, 1, 4, 3, 1, 3, 2] : List Nat).getD i 0) (fun a0 a' w' => ∃ Am tc Ad dc rb, a' = (((((((((((((((((((((a0.put (some 53) (.int .i64 k)).put (some 54) (.int .i64 ((k : Int) + 1))).put (some 55) (.slice (some ⟨b, off, none⟩) n c)).put (some 56) (.int .i64 k)).put (some 57) (.pointer (some ⟨b, off + k * 8, none⟩))).put (some 58) (.pointer (some ⟨b, off + k * 8 + 1, none⟩))).put (some 59) (.agg #[.int .u64 r.x.at', .int .i64 r.x.h, .int .i64 r.x.b, .int .i64 r.x.r, .int .i64 r.x.l])).put (some 60) (.slice (some ⟨b, off, none⟩) n c)).put (some 61) (.int .i64 k)).put (some 62) (.pointer (some ⟨b, off + k * 8, none⟩))).put (some 63) (.pointer (some ⟨b, off + k * 8 + 6, none⟩))).put (some 64) (.slice r.am r.n1 r.c1)).put (some 65) (.slice Am r.ms.length tc)).put (some 66) (.slice (some ⟨b, off, none⟩) n c)).put (some 67) (.int .i64 k)).put (some 68) (.pointer (some ⟨b, off + k * 8, none⟩))).put (some 69) (.pointer (some ⟨b, off + k * 8 + 7, none⟩))).put (some 70) (.slice r.ad r.n2 r.c2)).put (some 71) (.slice Ad r.ds.length dc)).put (some 72) (.agg (rvA (Rv.mk ((k : Int) + 1) r.x.at' r.x.h r.x.b r.x.r r.x.l) (.slice Am r.ms.length tc) (.slice Ad r.ds.length dc)))).put (some 7) (.pointer (some ⟨rb, 0, none⟩))) ∧ Tmp wr w' rb (Rv.mk ((k : Int) + 1) r.x.at' r.x.h r.x.b r.x.r r.x.l) (.slice Am r.ms.length tc) (.slice Ad r.ds.length dc) r.ms r.ds) (by kernel_rfl) ?_ ?_
      · refine Mix.wpX_prefix (fuel := 5) (by kernel_rfl) [0, 1, 2, 3, 4, 5, 6, 7, 8, 9, 10, 11, 13, 14, 15, 16, 17] _ _ _ (by kernel_rfl) ?_
        repeat (first | (refine Mix.mix_p (by simp only [List.getElem?_toArray, List.getElem?_cons_zero, List.getElem?_cons_succ]; exact rfl) rfl rfl ?_; go_big_quiet_step (fail); refine wpQuiet_nil ?_) | (refine Mix.mix_s (by simp only [List.getElem?_toArray, List.getElem?_cons_zero, List.getElem?_cons_succ]; exact rfl) rfl rfl ?_; go_big_quiet_step (fail); refine wpQuiet_nil ?_))
        intro m0
        refine Mix.wpX_world fun V0 hV0 => ?_
        have C0 := hid (show Ch (fun _ => False) wr V0 from hV0 ▸ CC.out.drewN m0)
        clear hV0
        refine Mix.wpX_two 12 20 (by kernel_rfl) ?_ ?_
        · refine Mix.mix_a (by simp only [List.getElem?_toArray, List.getElem?_cons_zero, List.getElem?_cons_succ]; exact rfl) rfl fun Y1 hY1 => ?_
          obtain ⟨n1, rfl⟩ := hY1
          go_wp2_with fail
          refine (copyMarks_any r.am r.n1 r.c1 _ (V0.drewN n1) (HR.out.1.keep (C0.out.drewN n1) (fun _ _ _ _ => id)) (by omega)).mono ?_
          rintro e W1 ⟨v1, rfl, ho1, hc1⟩
          obtain ⟨Am, tc, rfl, _⟩ := own_mk ho1
          have ob1 := hid (own_mono ho1 C0.out.size)
          have C1 := hid (show Ch (fun _ => False) wr W1 from ((C0.out.drewN n1).trans hc1 (fun _ _ h => h)))
          have DK1 := hid (((Ch.refl (fun _ => False) V0).drewN n1).trans hc1 (fun _ _ h => h))
          clear ho1 hc1
          go_wp2_with fail
          refine ⟨fun j' hj' => DK1.out.block j' (Nat.lt_of_lt_of_le ((HS.out j').1 hj') C0.out.size) id, ?_⟩
          intro m1
          refine Mix.wpX_world fun V1 hV1 => ?_
          have C1x := hid (show Ch (fun _ => False) wr V1 from by rw [hV1]; exact C1.out.drewN m1)
          have tm1x := hid (show V1.ownsRow wr.heap.size 45 3 (.slice Am r.ms.length tc) r.ms.length (mkCells r.ms) from by rw [hV1]; exact (((Ch.refl (fun _ => False) W1).drewN m1)).own ob1.out (fun _ _ => id))
          clear hV1
          refine Mix.wpX_two 18 20 (by kernel_rfl) ?_ ?_
          · refine Mix.mix_a (by simp only [List.getElem?_toArray, List.getElem?_cons_zero, List.getElem?_cons_succ]; exact rfl) rfl fun Y2 hY2 => ?_
            obtain ⟨n2, rfl⟩ := hY2
            go_wp2_with fail
            refine (copyPieces_any r.ad r.n2 r.c2 _ (V1.drewN n2) (HR.out.2.keep (C1x.out.drewN n2) (fun _ _ _ _ => id)) (by omega)).mono ?_
            rintro e W2 ⟨v2, rfl, ho2, hc2⟩
            obtain ⟨Ad, dc, rfl, _⟩ := own_pc ho2
            have ob2 := hid (own_mono ho2 C1x.out.size)
            have C2 := hid (show Ch (fun _ => False) wr W2 from ((C1x.out.drewN n2).trans hc2 (fun _ _ h => h)))
            have tm2 := hid (show W2.ownsRow wr.heap.size 45 3 (.slice Am r.ms.length tc) r.ms.length (mkCells r.ms) from (((Ch.refl (fun _ => False) V1).drewN n2).trans hc2 (fun _ _ h => h)).own tm1x.out (fun _ _ => id))
            have DK2 := hid (((Ch.refl (fun _ => False) V1).drewN n2).trans hc2 (fun _ _ h => h))
            clear ho2 hc2
            go_wp2_with fail
            refine ⟨fun j' hj' => DK2.out.block j' (Nat.lt_of_lt_of_le ((HS.out j').1 hj') C1x.out.size) id, ?_⟩
            intro m2
            refine Mix.wpX_world fun V2 hV2 => ?_
            have C2x := hid (show Ch (fun _ => False) wr V2 from by rw [hV2]; exact C2.out.drewN m2)
            have tm2x := hid (show V2.ownsRow wr.heap.size 45 3 (.slice Am r.ms.length tc) r.ms.length (mkCells r.ms) from by rw [hV2]; exact (((Ch.refl (fun _ => False) W2).drewN m2)).own tm2.out (fun _ _ => id))
            have td2x := hid (show V2.ownsRow wr.heap.size 47 3 (.slice Ad r.ds.length dc) r.ds.length (pcCells r.ds) from by rw [hV2]; exact (((Ch.refl (fun _ => False) W2).drewN m2)).own ob2.out (fun _ _ => id))
            clear hV2
            refine Mix.wpX_prefix (fuel := 0) (by kernel_rfl) [19, 20, 21] _ _ _ (by kernel_rfl) ?_
            (refine Mix.mix_p (by simp only [List.getElem?_toArray, List.getElem?_cons_zero, List.getElem?_cons_succ]; exact rfl) rfl rfl ?_; go_big_quiet_step (fail); refine wpQuiet_nil ?_)
            refine Mix.mix_a (by simp only [List.getElem?_toArray, List.getElem?_cons_zero, List.getElem?_cons_succ]; exact rfl) rfl fun Y3 hY3 => ?_
            obtain ⟨n3, rfl⟩ := hY3
            go_wp2_with fail
            refine ⟨fun j' hj' => (((Ch.refl (fun _ => False) V2).drewN n3).alloc _).block j' (Nat.lt_of_lt_of_le ((HS.out j').1 hj') C2x.out.size) id, ?_⟩
            obtain ⟨rb, hrb⟩ : ∃ x, x = V2.heap.size := ⟨_, rfl⟩
            rw [← hrb]
            have hz3 : wr.heap.size ≤ rb := by rw [hrb]; exact C2x.out.size
            refine Mix.mix_world fun V3 hV3 => ?_
            have C3y := hid (show Ch (fun _ => False) wr V3 from by rw [hV3]; exact ((C2x.out.drewN n3).alloc _))
            have tm3y := hid (show V3.ownsRow wr.heap.size 45 3 (.slice Am r.ms.length tc) r.ms.length (mkCells r.ms) from by rw [hV3]; exact ((((Ch.refl (fun _ => False) V2).drewN n3).alloc _)).own tm2x.out (fun _ _ => id))
            have td3y := hid (show V3.ownsRow wr.heap.size 47 3 (.slice Ad r.ds.length dc) r.ds.length (pcCells r.ds) from by rw [hV3]; exact ((((Ch.refl (fun _ => False) V2).drewN n3).alloc _)).own td2x.out (fun _ _ => id))
            have rb3z := hid (show Blk V3 rb 38 #[.int .i64 0, .int .u64 0, .int .i64 0, .int .i64 0, .int .i64 0, .int .i64 0, .slice none 0 0, .slice none 0 0] from by rw [hV3, hrb]; exact (Blk.new (V2.drewN n3) 38 #[.int .i64 0, .int .u64 0, .int .i64 0, .int .i64 0, .int .i64 0, .int .i64 0, .slice none 0 0, .slice none 0 0]))
            clear hrb
            clear hV3
            have RB4 := rb3z.out
            have own14 := RB4.own tm3y.out (by decide)
            have own24 := RB4.own td3y.out (by decide)
            have rr0 : V3.cell? ⟨rb, 0, none⟩ = some (.int .i64 0) := RB4.cell 0
            have rr1 : V3.cell? ⟨rb, 1, none⟩ = some (.int .u64 0) := RB4.cell 1
            have rr2 : V3.cell? ⟨rb, 2, none⟩ = some (.int .i64 0) := RB4.cell 2
            have rr3 : V3.cell? ⟨rb, 3, none⟩ = some (.int .i64 0) := RB4.cell 3
            have rr4 : V3.cell? ⟨rb, 4, none⟩ = some (.int .i64 0) := RB4.cell 4
            have rr5 : V3.cell? ⟨rb, 5, none⟩ = some (.int .i64 0) := RB4.cell 5
            have rr6 : V3.cell? ⟨rb, 6, none⟩ = some (.slice none 0 0) := RB4.cell 6
            have rr7 : V3.cell? ⟨rb, 7, none⟩ = some (.slice none 0 0) := RB4.cell 7
            have rf0 := RB4.free 0
            have rf1 := RB4.free 1
            have rf2 := RB4.free 2
            have rf3 := RB4.free 3
            have rf4 := RB4.free 4
            have rf5 := RB4.free 5
            have rf6 := RB4.free 6
            have rf7 := RB4.free 7
            refine Mix.mix_e (by simp only [List.getElem?_toArray, List.getElem?_cons_zero, List.getElem?_cons_succ]; exact rfl) rfl fun X4 hX4 => ?_
            obtain ⟨o4, rfl⟩ := hX4
            go_wp2_with fail
            intro m4
            refine Mix.wpX_world fun V4 hV4 => ?_
            have hB4 : Blk V4 rb 38 (rvA (Rv.mk ((k : Int) + 1) r.x.at' r.x.h r.x.b r.x.r r.x.l) (.slice Am r.ms.length tc) (.slice Ad r.ds.length dc)) := by rw [hV4]; exact ((((((((((RB4.drewN o4).put 0 _).put 1 _).put 2 _).put 3 _).put 4 _).put 5 _).put 6 _).put 7 _)).drewN m4
            have hC4 : Ch (fun j => j = rb) V3 V4 := by rw [hV4]; exact (((((((((((Ch.refl (fun j => j = rb) V3).drewN o4).set (fun _ => rfl) _).set (fun _ => rfl) _).set (fun _ => rfl) _).set (fun _ => rfl) _).set (fun _ => rfl) _).set (fun _ => rfl) _).set (fun _ => rfl) _).set (fun _ => rfl) _)).drewN m4
            have hT4 : Tmp wr V4 rb (Rv.mk ((k : Int) + 1) r.x.at' r.x.h r.x.b r.x.r r.x.l) (.slice Am r.ms.length tc) (.slice Ad r.ds.length dc) r.ms r.ds := ⟨hB4, hC4.own tm3y.out (fun k' h1 h2 => own14 (by rw [h1, h2])), hC4.own td3y.out (fun k' h1 h2 => own24 (by rw [h1, h2])), C3y.out.trans hC4 (fun i' hi' e' => absurd e' (by omega)), by omega⟩
            clear hV4
            refine Mix.wpX_done (by kernel_rfl) ?_
            intro u4
            refine ⟨Am, tc, Ad, dc, rb, ?_, hT4.b.drewN u4, (Ch.refl (fun _ => False) V4).drewN u4 |>.own hT4.m (fun _ _ => id), (Ch.refl (fun _ => False) V4).drewN u4 |>.own hT4.d (fun _ _ => id), hT4.ch.drewN u4, hT4.z⟩
            simp only [Act.put, List.setIfInBounds_toArray, List.set_cons_succ, List.set_cons_zero]
            rfl
          · refine Mix.mix_a (by simp only [List.getElem?_toArray, List.getElem?_cons_zero, List.getElem?_cons_succ]; exact rfl) rfl fun Y5 hY5 => ?_
            obtain ⟨n5, rfl⟩ := hY5
            go_wp2_with fail
            refine ⟨fun j' hj' => (((Ch.refl (fun _ => False) V1).drewN n5).alloc _).block j' (Nat.lt_of_lt_of_le ((HS.out j').1 hj') C1x.out.size) id, ?_⟩
            obtain ⟨rb, hrb⟩ : ∃ x, x = V1.heap.size := ⟨_, rfl⟩
            rw [← hrb]
            have hz5 : wr.heap.size ≤ rb := by rw [hrb]; exact C1x.out.size
            intro m5
            refine Mix.wpX_world fun V5 hV5 => ?_
            have C5x := hid (show Ch (fun _ => False) wr V5 from by rw [hV5]; exact ((C1x.out.drewN n5).alloc _).drewN m5)
            have tm5x := hid (show V5.ownsRow wr.heap.size 45 3 (.slice Am r.ms.length tc) r.ms.length (mkCells r.ms) from by rw [hV5]; exact ((((Ch.refl (fun _ => False) V1).drewN n5).alloc _).drewN m5).own tm1x.out (fun _ _ => id))
            have rb5z := hid (show Blk V5 rb 38 #[.int .i64 0, .int .u64 0, .int .i64 0, .int .i64 0, .int .i64 0, .int .i64 0, .slice none 0 0, .slice none 0 0] from by rw [hV5, hrb]; exact (Blk.new (V1.drewN n5) 38 #[.int .i64 0, .int .u64 0, .int .i64 0, .int .i64 0, .int .i64 0, .int .i64 0, .slice none 0 0, .slice none 0 0]).drewN m5)
            clear hrb
            clear hV5
            refine Mix.wpX_prefix (fuel := 0) (by kernel_rfl) [18, 19, 21] _ _ _ (by kernel_rfl) ?_
            refine Mix.mix_a (by simp only [List.getElem?_toArray, List.getElem?_cons_zero, List.getElem?_cons_succ]; exact rfl) rfl fun Y6 hY6 => ?_
            obtain ⟨n6, rfl⟩ := hY6
            go_wp2_with fail
            refine (copyPieces_any r.ad r.n2 r.c2 _ (V5.drewN n6) (HR.out.2.keep (C5x.out.drewN n6) (fun _ _ _ _ => id)) (by omega)).mono ?_
            rintro e W6 ⟨v6, rfl, ho6, hc6⟩
            obtain ⟨Ad, dc, rfl, _⟩ := own_pc ho6
            have ob6 := hid (own_mono ho6 C5x.out.size)
            have C6 := hid (show Ch (fun _ => False) wr W6 from ((C5x.out.drewN n6).trans hc6 (fun _ _ h => h)))
            have tm6 := hid (show W6.ownsRow wr.heap.size 45 3 (.slice Am r.ms.length tc) r.ms.length (mkCells r.ms) from (((Ch.refl (fun _ => False) V5).drewN n6).trans hc6 (fun _ _ h => h)).own tm5x.out (fun _ _ => id))
            have rb6 := hid (show Blk W6 rb 38 #[.int .i64 0, .int .u64 0, .int .i64 0, .int .i64 0, .int .i64 0, .int .i64 0, .slice none 0 0, .slice none 0 0] from hc6.blk (rb5z.out.drewN n6) id)
            have DK6 := hid (((Ch.refl (fun _ => False) V5).drewN n6).trans hc6 (fun _ _ h => h))
            clear ho6 hc6
            go_wp2_with fail
            refine ⟨fun j' hj' => DK6.out.block j' (Nat.lt_of_lt_of_le ((HS.out j').1 hj') C5x.out.size) id, ?_⟩
            (refine Mix.mix_p (by simp only [List.getElem?_toArray, List.getElem?_cons_zero, List.getElem?_cons_succ]; exact rfl) rfl rfl ?_; go_big_quiet_step (fail); refine wpQuiet_nil ?_)
            have RB7 := rb6.out
            have own17 := RB7.own tm6.out (by decide)
            have own27 := RB7.own ob6.out (by decide)
            have rr0 : W6.cell? ⟨rb, 0, none⟩ = some (.int .i64 0) := RB7.cell 0
            have rr1 : W6.cell? ⟨rb, 1, none⟩ = some (.int .u64 0) := RB7.cell 1
            have rr2 : W6.cell? ⟨rb, 2, none⟩ = some (.int .i64 0) := RB7.cell 2
            have rr3 : W6.cell? ⟨rb, 3, none⟩ = some (.int .i64 0) := RB7.cell 3
            have rr4 : W6.cell? ⟨rb, 4, none⟩ = some (.int .i64 0) := RB7.cell 4
            have rr5 : W6.cell? ⟨rb, 5, none⟩ = some (.int .i64 0) := RB7.cell 5
            have rr6 : W6.cell? ⟨rb, 6, none⟩ = some (.slice none 0 0) := RB7.cell 6
            have rr7 : W6.cell? ⟨rb, 7, none⟩ = some (.slice none 0 0) := RB7.cell 7
            have rf0 := RB7.free 0
            have rf1 := RB7.free 1
            have rf2 := RB7.free 2
            have rf3 := RB7.free 3
            have rf4 := RB7.free 4
            have rf5 := RB7.free 5
            have rf6 := RB7.free 6
            have rf7 := RB7.free 7
            refine Mix.mix_e (by simp only [List.getElem?_toArray, List.getElem?_cons_zero, List.getElem?_cons_succ]; exact rfl) rfl fun X7 hX7 => ?_
            obtain ⟨o7, rfl⟩ := hX7
            go_wp2_with fail
            intro m7
            refine Mix.wpX_world fun V7 hV7 => ?_
            have hB7 : Blk V7 rb 38 (rvA (Rv.mk ((k : Int) + 1) r.x.at' r.x.h r.x.b r.x.r r.x.l) (.slice Am r.ms.length tc) (.slice Ad r.ds.length dc)) := by rw [hV7]; exact ((((((((((RB7.drewN o7).put 0 _).put 1 _).put 2 _).put 3 _).put 4 _).put 5 _).put 6 _).put 7 _)).drewN m7
            have hC7 : Ch (fun j => j = rb) W6 V7 := by rw [hV7]; exact (((((((((((Ch.refl (fun j => j = rb) W6).drewN o7).set (fun _ => rfl) _).set (fun _ => rfl) _).set (fun _ => rfl) _).set (fun _ => rfl) _).set (fun _ => rfl) _).set (fun _ => rfl) _).set (fun _ => rfl) _).set (fun _ => rfl) _)).drewN m7
            have hT7 : Tmp wr V7 rb (Rv.mk ((k : Int) + 1) r.x.at' r.x.h r.x.b r.x.r r.x.l) (.slice Am r.ms.length tc) (.slice Ad r.ds.length dc) r.ms r.ds := ⟨hB7, hC7.own tm6.out (fun k' h1 h2 => own17 (by rw [h1, h2])), hC7.own ob6.out (fun k' h1 h2 => own27 (by rw [h1, h2])), C6.out.trans hC7 (fun i' hi' e' => absurd e' (by omega)), by omega⟩
            clear hV7
            refine Mix.wpX_done (by kernel_rfl) ?_
            intro u7
            refine ⟨Am, tc, Ad, dc, rb, ?_, hT7.b.drewN u7, (Ch.refl (fun _ => False) V7).drewN u7 |>.own hT7.m (fun _ _ => id), (Ch.refl (fun _ => False) V7).drewN u7 |>.own hT7.d (fun _ _ => id), hT7.ch.drewN u7, hT7.z⟩
            simp only [Act.put, List.setIfInBounds_toArray, List.set_cons_succ, List.set_cons_zero]
            rfl
        · refine Mix.mix_a (by simp only [List.getElem?_toArray, List.getElem?_cons_zero, List.getElem?_cons_succ]; exact rfl) rfl fun Y8 hY8 => ?_
          obtain ⟨n8, rfl⟩ := hY8
          go_wp2_with fail
          refine ⟨fun j' hj' => (((Ch.refl (fun _ => False) V0).drewN n8).alloc _).block j' (Nat.lt_of_lt_of_le ((HS.out j').1 hj') C0.out.size) id, ?_⟩
          obtain ⟨rb, hrb⟩ : ∃ x, x = V0.heap.size := ⟨_, rfl⟩
          rw [← hrb]
          have hz8 : wr.heap.size ≤ rb := by rw [hrb]; exact C0.out.size
          intro m8
          refine Mix.wpX_world fun V8 hV8 => ?_
          have C8x := hid (show Ch (fun _ => False) wr V8 from by rw [hV8]; exact ((C0.out.drewN n8).alloc _).drewN m8)
          have rb8z := hid (show Blk V8 rb 38 #[.int .i64 0, .int .u64 0, .int .i64 0, .int .i64 0, .int .i64 0, .int .i64 0, .slice none 0 0, .slice none 0 0] from by rw [hV8, hrb]; exact (Blk.new (V0.drewN n8) 38 #[.int .i64 0, .int .u64 0, .int .i64 0, .int .i64 0, .int .i64 0, .int .i64 0, .slice none 0 0, .slice none 0 0]).drewN m8)
          clear hrb
          clear hV8
          refine Mix.wpX_prefix (fuel := 0) (by kernel_rfl) [12, 18, 19, 21] _ _ _ (by kernel_rfl) ?_
          refine Mix.mix_a (by simp only [List.getElem?_toArray, List.getElem?_cons_zero, List.getElem?_cons_succ]; exact rfl) rfl fun Y9 hY9 => ?_
          obtain ⟨n9, rfl⟩ := hY9
          go_wp2_with fail
          refine (copyMarks_any r.am r.n1 r.c1 _ (V8.drewN n9) (HR.out.1.keep (C8x.out.drewN n9) (fun _ _ _ _ => id)) (by omega)).mono ?_
          rintro e W9 ⟨v9, rfl, ho9, hc9⟩
          obtain ⟨Am, tc, rfl, _⟩ := own_mk ho9
          have ob9 := hid (own_mono ho9 C8x.out.size)
          have C9 := hid (show Ch (fun _ => False) wr W9 from ((C8x.out.drewN n9).trans hc9 (fun _ _ h => h)))
          have rb9 := hid (show Blk W9 rb 38 #[.int .i64 0, .int .u64 0, .int .i64 0, .int .i64 0, .int .i64 0, .int .i64 0, .slice none 0 0, .slice none 0 0] from hc9.blk (rb8z.out.drewN n9) id)
          have DK9 := hid (((Ch.refl (fun _ => False) V8).drewN n9).trans hc9 (fun _ _ h => h))
          clear ho9 hc9
          go_wp2_with fail
          refine ⟨fun j' hj' => DK9.out.block j' (Nat.lt_of_lt_of_le ((HS.out j').1 hj') C8x.out.size) id, ?_⟩
          refine Mix.mix_a (by simp only [List.getElem?_toArray, List.getElem?_cons_zero, List.getElem?_cons_succ]; exact rfl) rfl fun Y10 hY10 => ?_
          obtain ⟨n10, rfl⟩ := hY10
          go_wp2_with fail
          refine (copyPieces_any r.ad r.n2 r.c2 _ (W9.drewN n10) (HR.out.2.keep (C9.out.drewN n10) (fun _ _ _ _ => id)) (by omega)).mono ?_
          rintro e W10 ⟨v10, rfl, ho10, hc10⟩
          obtain ⟨Ad, dc, rfl, _⟩ := own_pc ho10
          have ob10 := hid (own_mono ho10 C9.out.size)
          have C10 := hid (show Ch (fun _ => False) wr W10 from ((C9.out.drewN n10).trans hc10 (fun _ _ h => h)))
          have tm10 := hid (show W10.ownsRow wr.heap.size 45 3 (.slice Am r.ms.length tc) r.ms.length (mkCells r.ms) from (((Ch.refl (fun _ => False) W9).drewN n10).trans hc10 (fun _ _ h => h)).own ob9.out (fun _ _ => id))
          have rb10 := hid (show Blk W10 rb 38 #[.int .i64 0, .int .u64 0, .int .i64 0, .int .i64 0, .int .i64 0, .int .i64 0, .slice none 0 0, .slice none 0 0] from hc10.blk (rb9.out.drewN n10) id)
          have DK10 := hid (((Ch.refl (fun _ => False) W9).drewN n10).trans hc10 (fun _ _ h => h))
          clear ho10 hc10
          go_wp2_with fail
          refine ⟨fun j' hj' => DK10.out.block j' (Nat.lt_of_lt_of_le ((HS.out j').1 hj') C9.out.size) id, ?_⟩
          (refine Mix.mix_p (by simp only [List.getElem?_toArray, List.getElem?_cons_zero, List.getElem?_cons_succ]; exact rfl) rfl rfl ?_; go_big_quiet_step (fail); refine wpQuiet_nil ?_)
          have RB11 := rb10.out
          have own111 := RB11.own tm10.out (by decide)
          have own211 := RB11.own ob10.out (by decide)
          have rr0 : W10.cell? ⟨rb, 0, none⟩ = some (.int .i64 0) := RB11.cell 0
          have rr1 : W10.cell? ⟨rb, 1, none⟩ = some (.int .u64 0) := RB11.cell 1
          have rr2 : W10.cell? ⟨rb, 2, none⟩ = some (.int .i64 0) := RB11.cell 2
          have rr3 : W10.cell? ⟨rb, 3, none⟩ = some (.int .i64 0) := RB11.cell 3
          have rr4 : W10.cell? ⟨rb, 4, none⟩ = some (.int .i64 0) := RB11.cell 4
          have rr5 : W10.cell? ⟨rb, 5, none⟩ = some (.int .i64 0) := RB11.cell 5
          have rr6 : W10.cell? ⟨rb, 6, none⟩ = some (.slice none 0 0) := RB11.cell 6
          have rr7 : W10.cell? ⟨rb, 7, none⟩ = some (.slice none 0 0) := RB11.cell 7
          have rf0 := RB11.free 0
          have rf1 := RB11.free 1
          have rf2 := RB11.free 2
          have rf3 := RB11.free 3
          have rf4 := RB11.free 4
          have rf5 := RB11.free 5
          have rf6 := RB11.free 6
          have rf7 := RB11.free 7
          refine Mix.mix_e (by simp only [List.getElem?_toArray, List.getElem?_cons_zero, List.getElem?_cons_succ]; exact rfl) rfl fun X11 hX11 => ?_
          obtain ⟨o11, rfl⟩ := hX11
          go_wp2_with fail
          intro m11
          refine Mix.wpX_world fun V11 hV11 => ?_
          have hB11 : Blk V11 rb 38 (rvA (Rv.mk ((k : Int) + 1) r.x.at' r.x.h r.x.b r.x.r r.x.l) (.slice Am r.ms.length tc) (.slice Ad r.ds.length dc)) := by rw [hV11]; exact ((((((((((RB11.drewN o11).put 0 _).put 1 _).put 2 _).put 3 _).put 4 _).put 5 _).put 6 _).put 7 _)).drewN m11
          have hC11 : Ch (fun j => j = rb) W10 V11 := by rw [hV11]; exact (((((((((((Ch.refl (fun j => j = rb) W10).drewN o11).set (fun _ => rfl) _).set (fun _ => rfl) _).set (fun _ => rfl) _).set (fun _ => rfl) _).set (fun _ => rfl) _).set (fun _ => rfl) _).set (fun _ => rfl) _).set (fun _ => rfl) _)).drewN m11
          have hT11 : Tmp wr V11 rb (Rv.mk ((k : Int) + 1) r.x.at' r.x.h r.x.b r.x.r r.x.l) (.slice Am r.ms.length tc) (.slice Ad r.ds.length dc) r.ms r.ds := ⟨hB11, hC11.own tm10.out (fun k' h1 h2 => own111 (by rw [h1, h2])), hC11.own ob10.out (fun k' h1 h2 => own211 (by rw [h1, h2])), C10.out.trans hC11 (fun i' hi' e' => absurd e' (by omega)), by omega⟩
          clear hV11
          refine Mix.wpX_done (by kernel_rfl) ?_
          intro u11
          refine ⟨Am, tc, Ad, dc, rb, ?_, hT11.b.drewN u11, (Ch.refl (fun _ => False) V11).drewN u11 |>.own hT11.m (fun _ _ => id), (Ch.refl (fun _ => False) V11).drewN u11 |>.own hT11.d (fun _ _ => id), hT11.ch.drewN u11, hT11.z⟩
          simp only [Act.put, List.setIfInBounds_toArray, List.set_cons_succ, List.set_cons_zero]
          rfl
      · rintro a' W12 ⟨Am, tc, Ad, dc, rb, rfl, hT⟩
        simp only [Act.put, List.setIfInBounds_toArray, List.set_cons_succ, List.set_cons_zero]
        have HT := hid hT
        have M1 := hid (HK.out.mem.addThree hT.ch (blkR rb 38 (rvA (Rv.mk ((k : Int) + 1) r.x.at' r.x.h r.x.b r.x.r r.x.l) (.slice Am r.ms.length tc) (.slice Ad r.ds.length dc))) (mR w.heap.size (.slice Am r.ms.length tc) r.ms) (dR w.heap.size (.slice Ad r.ds.length dc) r.ds) hT.b (own_mono hT.m HK.out.mem.bz) (own_mono hT.d HK.out.mem.bz)
          (fun j' hj' => by rw [show j' = rb from hj']; exact hT.z) (fun j' hj' => (hT.m.lt j' hj').1) (fun j' hj' => (hT.d.lt j' hj').1)
          (fun j' h1' h2' => hT.b.own hT.m (by decide) (by rw [show j' = rb from h1'] at h2'; exact h2')) (fun j' h1' h2' => hT.b.own hT.d (by decide) (by rw [show j' = rb from h1'] at h2'; exact h2'))
          (fun j' h1' h2' => own_apart hT.m hT.d (by decide) j' h1' h2'))
        have x1 : W12.cell? ⟨b, off + k * 8 + 1, none⟩ = some (.int .u64 r.x.at') := (hT.ch.cell (p := ⟨b, _, none⟩) hb id).trans c1
        have x2 : W12.cell? ⟨b, off + k * 8 + 2, none⟩ = some (.int .i64 r.x.h) := (hT.ch.cell (p := ⟨b, _, none⟩) hb id).trans c2
        have x3 : W12.cell? ⟨b, off + k * 8 + 3, none⟩ = some (.int .i64 r.x.b) := (hT.ch.cell (p := ⟨b, _, none⟩) hb id).trans c3
        have x4 : W12.cell? ⟨b, off + k * 8 + 4, none⟩ = some (.int .i64 r.x.r) := (hT.ch.cell (p := ⟨b, _, none⟩) hb id).trans c4
        have x5 : W12.cell? ⟨b, off + k * 8 + 5, none⟩ = some (.int .i64 r.x.l) := (hT.ch.cell (p := ⟨b, _, none⟩) hb id).trans c5
        have x6 : W12.cell? ⟨b, off + k * 8 + 6, none⟩ = some (.slice r.am r.n1 r.c1) := (hT.ch.cell (p := ⟨b, _, none⟩) hb id).trans c6
        have x7 : W12.cell? ⟨b, off + k * 8 + 7, none⟩ = some (.slice r.ad r.n2 r.c2) := (hT.ch.cell (p := ⟨b, _, none⟩) hb id).trans c7
        have hz12 := hT.ch.size
        clear hT CC c0 c1 c2 c3 c4 c5 c6 c7
        go_wp2_with fail
        refine Mix.wp_region_mix SS (fun i => ([1, 1, 1, 1, 1, 1, 1, 4, 1, 1, 1, 1, 4, 3, 1, 1, 1, 1, 4, 3, 1, 3, 2, 0] : List Nat).getD i 0) [0, 1, 2, 3, 4, 5, 6, 7, 8, 9, 10, 11, 12, 14, 15, 16, 17, 18, 13, 19, 20, 21, 22, 23] (by kernel_rfl) (by kernel_rfl) ?_
        repeat (first | (refine Mix.mix_p (by simp only [List.getElem?_toArray, List.getElem?_cons_zero, List.getElem?_cons_succ]; exact rfl) rfl rfl ?_; go_big_quiet_step (fail); refine wpQuiet_nil ?_) | (refine Mix.mix_s (by simp only [List.getElem?_toArray, List.getElem?_cons_zero, List.getElem?_cons_succ]; exact rfl) rfl rfl ?_; go_big_quiet_step (fail); refine wpQuiet_nil ?_))
        refine Mix.mix_a (by simp only [List.getElem?_toArray, List.getElem?_cons_zero, List.getElem?_cons_succ]; exact rfl) rfl fun Y1 hY1 => ?_
        obtain ⟨y1, rfl⟩ := hY1
        go_wp2_with fail
        refine (copyMarks_any r.am r.n1 r.c1 _ (W12.drewN y1) (HR.out.1.keep (HT.out.ch.drewN y1) (fun _ _ _ _ => id)) (by omega)).mono ?_
        rintro e w13 ⟨v13, rfl, ho, hc⟩
        obtain ⟨Bm, uc, rfl, _⟩ := own_mk ho
        have C13 := hid (((Ch.refl (fun _ => False) W12).drewN y1).trans hc (fun _ _ h => h))
        have O13 := hid (own_mono ho (Nat.le_refl W12.heap.size))
        clear ho hc
        go_wp2_with fail
        refine ⟨fun j' hj' => C13.out.block j' (Nat.lt_of_lt_of_le ((HS.out j').1 hj') hz12) id, ?_⟩
        clear x1 x2 x3 x4 x5 x6 x7
        refine Mix.mix_a (by simp only [List.getElem?_toArray, List.getElem?_cons_zero, List.getElem?_cons_succ]; exact rfl) rfl fun Y2 hY2 => ?_
        obtain ⟨y2, rfl⟩ := hY2
        go_wp2_with fail
        refine (copyPieces_any r.ad r.n2 r.c2 _ (w13.drewN y2) (HR.out.2.keep ((HT.out.ch.trans C13.out (fun _ _ h => h)).drewN y2) (fun _ _ _ _ => id)) (by omega)).mono ?_
        rintro e w14 ⟨v14, rfl, ho, hc⟩
        obtain ⟨Bd, vc, rfl, _⟩ := own_pc ho
        have DK := hid (((Ch.refl (fun _ => False) w13).drewN y2).trans hc (fun _ _ h => h))
        have C14 := hid (C13.out.trans DK.out (fun _ _ h => h))
        have O14 := hid (own_mono ho (show W12.heap.size ≤ (w13.drewN y2).heap.size from C13.out.size))
        have O14m := hid (DK.out.own O13.out (fun _ _ => id))
        clear ho hc
        go_wp2_with fail
        refine ⟨fun j' hj' => DK.out.block j' (Nat.lt_of_lt_of_le ((HS.out j').1 hj') (Nat.le_trans hz12 C13.out.size)) id, ?_⟩
        repeat (refine Mix.mix_p (by simp only [List.getElem?_toArray, List.getElem?_cons_zero, List.getElem?_cons_succ]; exact rfl) rfl rfl ?_; go_big_quiet_step (fail); refine wpQuiet_nil ?_)
        refine Mix.mix_a (by simp only [List.getElem?_toArray, List.getElem?_cons_zero, List.getElem?_cons_succ]; exact rfl) rfl fun Y3 hY3 => ?_
        obtain ⟨y3, rfl⟩ := hY3
        go_wp2_with fail
        refine ⟨fun j' hj' => Below.heap_alloc _ _ j' (Nat.lt_of_lt_of_le ((HS.out j').1 hj') (Nat.le_trans hz12 C14.out.size)), Mix.mix_world fun W15 hW15 => ?_⟩
        have c15 : Ch (fun _ => False) w14 W15 := by rw [hW15]; first | exact Ch.push rfl rfl rfl rfl | exact ((Ch.refl _ w14).drewN y3).alloc _
        have n15 : Blk W15 w14.heap.size 38 (rvA (Rv.mk ((k : Int) + 1) r.x.at' r.x.h r.x.b r.x.r r.x.l) (.slice Bm r.ms.length uc) (.slice Bd r.ds.length vc)) := by rw [hW15]; first | exact Blk.push rfl | exact Blk.new (w14.drewN y3) _ _
        have C15 := hid (C14.out.trans c15 (fun _ _ h => h))
        have N15 := hid n15
        have M2 := hid (M1.out.addTwo C15.out (mR w.heap.size (.slice Bm r.ms.length uc) r.ms) (dR w.heap.size (.slice Bd r.ds.length vc) r.ds) (own_mono (c15.own O14m.out (fun _ _ => id)) M1.out.bz) (own_mono (c15.own O14.out (fun _ _ => id)) M1.out.bz)
          (fun j' hj' => (O14m.out.lt j' hj').1) (fun j' hj' => (O14.out.lt j' hj').1) (fun j' h1' h2' => own_apart O14m.out O14.out (by decide) j' h1' h2'))
        clear hW15 c15 n15
        refine Mix.mix_e (by simp only [List.getElem?_toArray, List.getElem?_cons_zero, List.getElem?_cons_succ]; exact rfl) rfl fun Y4 hY4 => ?_
        obtain ⟨y4, rfl⟩ := hY4
        obtain ⟨i0, hi0, hz0, hz1, hz2⟩ := info_parts (show (Try.prog.info? 38).map (fun i => (i.zero, i.size, i.bytes)) = some (some (Value.agg #[.int .i64 0, .int .u64 0, .int .i64 0, .int .i64 0, .int .i64 0, .int .i64 0, .slice none 0 0, .slice none 0 0]), 8, 96) by kernel_rfl)
        refine wpList_app _ rfl (.tmp 73) (.tmp 94) 22 rfl w.heap.size 38 i0 _ 8 96 Try.underlying22 hi0 hz0 hz1 hz2 rfl (by decide) (.slice Aw k cw) k (wantCells rs) rfl (by have t := (M2.out.drewN y4).each 2 _ rfl; rw [HKL.out]; exact t) ⟨w14.heap.size, 0, none⟩ 1 1 (rvCells (Rv.mk ((k : Int) + 1) r.x.at' r.x.h r.x.b r.x.r r.x.l) (.slice Bm r.ms.length uc) (.slice Bd r.ds.length vc)) rfl rfl ?c1 ?c2 (by decide) ?c3 ?c4 ?c5 ?_
        case c1 => intro j' u hu; rw [addr_add0]; exact ((N15.out.drewN y4).cell j').trans (by simpa [rvCells, rvA] using hu)
        case c2 =>
          intro u hu
          simp only [rvCells, List.mem_cons, List.not_mem_nil, or_false] at hu
          rcases hu with rfl | rfl | rfl | rfl | rfl | rfl | rfl | rfl <;> rfl
        case c3 => unfold maxLen; omega
        case c4 => omega
        case c5 => exact M2.out.bz
        intro v' w16 hown' hgrow hfresh
        obtain ⟨A', cap', hv', _⟩ := own_slice hown'
        subst hv'
        have M3 := hid (show Mem w.heap.size w (stR sb (.slice Ar (rs.length + 1) cr) :: rowR w.heap.size 38 8 (rs.length + 1) (.slice Ar (rs.length + 1) cr) (pubCells zRv rs) :: rowR w.heap.size 38 8 (k + 1) (.slice A' (k + 1) cap') (wantCells rs ++ rvCells (Rv.mk ((k : Int) + 1) r.x.at' r.x.h r.x.b r.x.r r.x.l) (.slice Bm r.ms.length uc) (.slice Bd r.ds.length vc)) :: (rs.flatMap (Rec.res w.heap.size) ++ [blkR rb 38 (rvA (Rv.mk ((k : Int) + 1) r.x.at' r.x.h r.x.b r.x.r r.x.l) (.slice Am r.ms.length tc) (.slice Ad r.ds.length dc)), mR w.heap.size (.slice Am r.ms.length tc) r.ms, dR w.heap.size (.slice Ad r.ds.length dc) r.ds, mR w.heap.size (.slice Bm r.ms.length uc) r.ms, dR w.heap.size (.slice Bd r.ds.length vc) r.ds])) w16 from by
          have t := (M2.out.drewN y4).app (i := 2) rfl hown' (by rw [← HKL.out]; exact hgrow) (by rw [← HKL.out]; exact hfresh)
          simpa [keepL] using t)
        clear hown' hgrow hfresh hi0 hz0 hz1 hz2 N15 M1 M2 O14 O14m O13 DK C13 C14 C15 HT hS1 HS
        go_wp2_with fail
        (refine Mix.mix_q (by simp only [List.getElem?_toArray, List.getElem?_cons_zero, List.getElem?_cons_succ]; exact rfl) rfl ?_; go_big_quiet_step (fail); refine wpQuiet_nil ?_)
        intro y5
        have M4 := hid (M3.out.drewN y5)
        refine at_world fun W17 hW17 => ?_
        rw [← hW17] at M4
        clear hW17 M3
        have HB := hid (M4.out.mem_each (r := blkR rb 38 (rvA (Rv.mk ((k : Int) + 1) r.x.at' r.x.h r.x.b r.x.r r.x.l) (.slice Am r.ms.length tc) (.slice Ad r.ds.length dc))) (by simp))
        have x0 : W17.cell? ⟨rb, 0, none⟩ = some (.int .i64 ((k : Int) + 1)) := HB.out.cell 0
        have x1 : W17.cell? ⟨rb, 1, none⟩ = some (.int .u64 r.x.at') := HB.out.cell 1
        have x2 : W17.cell? ⟨rb, 2, none⟩ = some (.int .i64 r.x.h) := HB.out.cell 2
        have x3 : W17.cell? ⟨rb, 3, none⟩ = some (.int .i64 r.x.b) := HB.out.cell 3
        have x4 : W17.cell? ⟨rb, 4, none⟩ = some (.int .i64 r.x.r) := HB.out.cell 4
        have x5 : W17.cell? ⟨rb, 5, none⟩ = some (.int .i64 r.x.l) := HB.out.cell 5
        have x6 : W17.cell? ⟨rb, 6, none⟩ = some ((.slice Am r.ms.length tc)) := HB.out.cell 6
        have x7 : W17.cell? ⟨rb, 7, none⟩ = some ((.slice Ad r.ds.length dc)) := HB.out.cell 7
        go_wp2_with fail
        clear HB x0 x1 x2 x3 x4 x5 x6 x7
        obtain ⟨cs, hcs, h23⟩ := M4.out.each 0 _ rfl
        obtain ⟨zm, hm⟩ := own_mk' (M4.out.mem_each (r := mR w.heap.size (.slice Am r.ms.length tc) r.ms) (by simp))
        obtain ⟨zd, hd⟩ := own_pc' (M4.out.mem_each (r := dR w.heap.size (.slice Ad r.ds.length dc) r.ds) (by simp))
        have hle := HK.out.le
        have hq1 := HR.out.1.1
        have hq2 := HR.out.2.1
        refine (publish_any w.heap.size sb cs Ar cr rs.length (pubCells zRv rs) (rs.length : Int) (Rv.mk ((k : Int) + 1) r.x.at' r.x.h r.x.b r.x.r r.x.l) Am Ad r.ms.length tc r.ds.length dc r.ms r.ds W17 hcs h23 (M4.out.each 1 _ rfl) (pub_last rs (fun i r h => (HK.out.ok i r h).1)) (by rw [← HKL.out]; show (k : Int) < (k : Int) + 1; omega) (by omega) M4.out.bz hm hd zm zd (by omega) (by omega)).mono ?_
        rintro e w18 ⟨rfl, mv, dv, rv2, hS, hO, hm', hd', hc, hf⟩
        have hlt23 := (Array.getElem?_eq_some_iff.1 h23).1
        have M5 := hid (M4.out.pub (stR sb rv2) (rowR w.heap.size 38 8 (rs.length + 1 + 1) rv2 (pubCells zRv rs ++ rvCells (Rv.mk ((k : Int) + 1) r.x.at' r.x.h r.x.b r.x.r r.x.l) mv dv)) (mR w.heap.size mv r.ms) (dR w.heap.size dv r.ds) hc (fun k' _ h => h.elim (fun e => .inr e) (fun e => .inl e))
          ⟨_, hS, by simp [Array.getElem?_setIfInBounds, hlt23]⟩ hO (fun _ h => h) (fun k' hk' => hf.elim (fun e => .inl (by show Value.ownBlock _ = some k'; rw [← e]; exact hk')) (fun e => .inr (e k' hk')))
          (own_mono hm' M4.out.bz) (own_mono hd' M4.out.bz) (fun k' h => (hm'.lt k' h).1) (fun k' h => (hd'.lt k' h).1) (fun k' h1 h2 => own_apart hm' hd' (by decide) k' h1 h2)
          (fun k' h1 h2 => own_apart hO hm' (by decide) k' h1 h2) (fun k' h1 h2 => own_apart hO hd' (by decide) k' h1 h2))
        clear hS hO hm' hd' hc hf hcs h23 hm hd zm zd hlt23 M4 hq1 hq2
        rw [← HKL.out]
        have hmb : r.ms.length ≤ 20 := by rw [HR.out.1.1]; omega
        have hdb : r.ds.length ≤ 20 := by rw [HR.out.2.1]; omega
        have M5 := hid (show Mem w.heap.size w (keepL w.heap.size sb rv2 (.slice A' (k + 1) cap') zRv (rs ++ [(Rec.mk rb (Rv.mk ((k : Int) + 1) r.x.at' r.x.h r.x.b r.x.r r.x.l) r.ms r.ds (.slice Am r.ms.length tc) r.ms (.slice Ad r.ds.length dc) r.ds (.slice Bm r.ms.length uc) (.slice Bd r.ds.length vc) mv dv)])) w18 from by
          have t := M5.out
          have e : keepL w.heap.size sb rv2 (.slice A' (k + 1) cap') zRv (rs ++ [(Rec.mk rb (Rv.mk ((k : Int) + 1) r.x.at' r.x.h r.x.b r.x.r r.x.l) r.ms r.ds (.slice Am r.ms.length tc) r.ms (.slice Ad r.ds.length dc) r.ds (.slice Bm r.ms.length uc) (.slice Bd r.ds.length vc) mv dv)]) = _ := keep_tm _ _ _ _ _ _ _ _ _ _ _ _ _ _ _ _ _ _
          rw [e]
          simpa [HKL.out] using t)
        go_wp2_with fail
        go_loopw [10] (fun kk W => ∃ (j : Nat) (ys : List Mk), j ≤ r.ms.length ∧ ys.length = r.ms.length ∧ kk = .int .i64 j ∧ Mem w.heap.size w (keepL w.heap.size sb rv2 (.slice A' (k + 1) cap') zRv (rs ++ [(Rec.mk rb (Rv.mk ((k : Int) + 1) r.x.at' r.x.h r.x.b r.x.r r.x.l) r.ms r.ds (.slice Am r.ms.length tc) ys (.slice Ad r.ds.length dc) r.ds (.slice Bm r.ms.length uc) (.slice Bd r.ds.length vc) mv dv)])) W) (fun kk _ => r.ms.length - (intOf kk).toNat)
        case atStart => exact ⟨0, r.ms, Nat.zero_le _, rfl, rfl, M5.out⟩
        case round =>
          clear M5
          obtain ⟨j, ys, hj, hyl, rfl, hM⟩ := hrel
          have HM := hid hM
          have HB := hid (HM.out.mem_each (r := blkR rb 38 (rvA (Rv.mk ((k : Int) + 1) r.x.at' r.x.h r.x.b r.x.r r.x.l) (.slice Am r.ms.length tc) (.slice Ad r.ds.length dc))) (by simp [keepL, Rec.res]))
          have xb : wr.cell? ⟨rb, 6, none⟩ = some (.slice Am r.ms.length tc) := HB.out.cell 6
          clear hM
          have HYL := hid hyl
          clear hyl
          by_cases hjl : j < r.ms.length
          · have t1 : decide (j < r.ms.length) = true := decide_eq_true hjl
            have t2 : decide ((j : Int) < (r.ms.length : Int)) = true := decide_eq_true (by omega)
            have hrow := HM.out.mem_each (r := mR w.heap.size (.slice Am r.ms.length tc) ys) (by simp [keepL, Rec.res])
            simp only [mR, rowR] at hrow
            rw [HYL.out] at hrow
            obtain ⟨g, cg, hvg, _⟩ := own_form hrow (by omega)
            injection hvg with hA _ hcg
            subst hA hcg
            have hy : ys[j]? = some (ys[j]'(by rw [HYL.out]; exact hjl)) := List.getElem?_eq_getElem _
            obtain ⟨y, hy0⟩ : ∃ y, y = ys[j]'(by rw [HYL.out]; exact hjl) := ⟨_, rfl⟩
            rw [← hy0] at hy
            have xg : wr.cell? ⟨g, j * 3 + 1, none⟩ = some (.int .i64 y.at') := by
              have t := hrow.cells (g := g) rfl (j * 3 + 1) _ (mkCells_get ys j y hy 1 _ rfl)
              rw [addr_add0] at t
              exact t
            have xf := hrow.frozenAt (j * 3 + 1)
            have HRW := hid hrow
            have HY := hid hy
            clear hrow hy hy0 HB
            go_wp2_with fail
            refine ⟨⟨j + 1, ys.set j ⟨y.id, (wrap64 (y.at' + 1)), y.g⟩, hjl, by rw [List.length_set]; exact HYL.out, by push_cast; rfl, ?_⟩, by simp only [intOf]; omega⟩
            refine HM.out.setTm _ ((Ch.refl (fun k' => (Value.slice (some ⟨g, 0, none⟩) r.ms.length tc).ownBlock = some k') wr).set (fun _ => rfl) _) ?_
            have t := (HRW.out.stored (j * 3 + 1) (.int .i64 (wrap64 (y.at' + 1)))).1
            rw [mk_set _ _ _ _ HY.out] at t
            simp only [mR, rowR]
            rw [List.length_set, HYL.out]
            exact t
          · obtain rfl : j = r.ms.length := by omega
            have t1 : decide (r.ms.length < r.ms.length) = false := decide_eq_false (by omega)
            have t2 : decide ((r.ms.length : Int) < (r.ms.length : Int)) = false := decide_eq_false (by omega)
            go_wp2_with fail
            obtain ⟨tms, htms⟩ : ∃ t, t = ys := ⟨_, rfl⟩
            rw [← htms] at HM HYL
            clear htms HB xb
            have M6 := hid (show Mem w.heap.size w (keepL w.heap.size sb rv2 (.slice A' (k + 1) cap') zRv (rs ++ [(Rec.mk rb (Rv.mk ((k : Int) + 1) r.x.at' r.x.h r.x.b r.x.r r.x.l) r.ms r.ds (.slice Am r.ms.length tc) tms (.slice Ad r.ds.length dc) r.ds (.slice Bm r.ms.length uc) (.slice Bd r.ds.length vc) mv dv)])) wr from HM.out)
            have HT6 := hid HYL.out
            clear HM HYL
            go_loopw [11] (fun kk W => ∃ (j : Nat) (ys : List Pc), j ≤ r.ds.length ∧ ys.length = r.ds.length ∧ kk = .int .i64 j ∧ Mem w.heap.size w (keepL w.heap.size sb rv2 (.slice A' (k + 1) cap') zRv (rs ++ [(Rec.mk rb (Rv.mk ((k : Int) + 1) r.x.at' r.x.h r.x.b r.x.r r.x.l) r.ms r.ds (.slice Am r.ms.length tc) tms (.slice Ad r.ds.length dc) ys (.slice Bm r.ms.length uc) (.slice Bd r.ds.length vc) mv dv)])) W) (fun kk _ => r.ds.length - (intOf kk).toNat)
            case atStart => exact ⟨0, r.ds, Nat.zero_le _, rfl, rfl, M6.out⟩
            case round =>
              clear M6
              obtain ⟨j, ys, hj, hyl, rfl, hM⟩ := hrel
              have HM := hid hM
              have HB := hid (HM.out.mem_each (r := blkR rb 38 (rvA (Rv.mk ((k : Int) + 1) r.x.at' r.x.h r.x.b r.x.r r.x.l) (.slice Am r.ms.length tc) (.slice Ad r.ds.length dc))) (by simp [keepL, Rec.res]))
              have xb : wr.cell? ⟨rb, 7, none⟩ = some (.slice Ad r.ds.length dc) := HB.out.cell 7
              clear hM
              have HYL := hid hyl
              clear hyl
              by_cases hjl : j < r.ds.length
              · have t1 : decide (j < r.ds.length) = true := decide_eq_true hjl
                have t2 : decide ((j : Int) < (r.ds.length : Int)) = true := decide_eq_true (by omega)
                have hrow := HM.out.mem_each (r := dR w.heap.size (.slice Ad r.ds.length dc) ys) (by simp [keepL, Rec.res])
                simp only [dR, rowR] at hrow
                rw [HYL.out] at hrow
                obtain ⟨g, cg, hvg, _⟩ := own_form hrow (by omega)
                injection hvg with hA _ hcg
                subst hA hcg
                have hy : ys[j]? = some (ys[j]'(by rw [HYL.out]; exact hjl)) := List.getElem?_eq_getElem _
                obtain ⟨y, hy0⟩ : ∃ y, y = ys[j]'(by rw [HYL.out]; exact hjl) := ⟨_, rfl⟩
                rw [← hy0] at hy
                have xg : wr.cell? ⟨g, j * 3 + 1, none⟩ = some (.int .i64 y.n) := by
                  have t := hrow.cells (g := g) rfl (j * 3 + 1) _ (pcCells_get ys j y hy 1 _ rfl)
                  rw [addr_add0] at t
                  exact t
                have xf := hrow.frozenAt (j * 3 + 1)
                have HRW := hid hrow
                have HY := hid hy
                clear hrow hy hy0 HB
                go_wp2_with fail
                refine ⟨⟨j + 1, ys.set j ⟨y.k, (wrap64 (y.n - 1)), y.s⟩, hjl, by rw [List.length_set]; exact HYL.out, by push_cast; rfl, ?_⟩, by simp only [intOf]; omega⟩
                refine HM.out.setTd _ ((Ch.refl (fun k' => (Value.slice (some ⟨g, 0, none⟩) r.ds.length dc).ownBlock = some k') wr).set (fun _ => rfl) _) ?_
                have t := (HRW.out.stored (j * 3 + 1) (.int .i64 (wrap64 (y.n - 1)))).1
                rw [pc_set _ _ _ _ HY.out] at t
                simp only [dR, rowR]
                rw [List.length_set, HYL.out]
                exact t
              · obtain rfl : j = r.ds.length := by omega
                have t1 : decide (r.ds.length < r.ds.length) = false := decide_eq_false (by omega)
                have t2 : decide ((r.ds.length : Int) < (r.ds.length : Int)) = false := decide_eq_false (by omega)
                go_wp2_with fail
                refine ⟨⟨rs ++ [(Rec.mk rb (Rv.mk ((k : Int) + 1) r.x.at' r.x.h r.x.b r.x.r r.x.l) r.ms r.ds (.slice Am r.ms.length tc) tms (.slice Ad r.ds.length dc) ys (.slice Bm r.ms.length uc) (.slice Bd r.ds.length vc) mv dv)], rv2, by rw [List.length_append, ← HKL.out]; rfl, ⟨by rw [List.length_append, ← HKL.out]; exact hlt, HM.out, fun i' q hq => ?_⟩⟩, by simp only [intOf]; omega⟩
                rcases snoc_get hq with ⟨rfl, rfl⟩ | hq
                · exact ⟨by show (k : Int) + 1 = (rs.length : Int) + 1; rw [HKL.out], hmb, hdb, HT6.out, HYL.out⟩
                · exact HK.out.ok i' q hq
    · obtain rfl : k = n := by have := HK.out.le; have := HKL.out; omega
      have d1 : decide (k < k) = false := decide_eq_false (by omega)
      go_wp2_with fail
      go_loopw [12] (fun i W => ∃ q : Nat, q ≤ k ∧ i = .int .i64 q ∧ Mem w.heap.size w (keepL w.heap.size sb (.slice Ar (rs.length + 1) cr) (.slice Aw k cw) zRv rs) W) (fun i _ => k - (intOf i).toNat)
      case atStart => exact ⟨0, Nat.zero_le _, rfl, by have t := HK.out.mem; rw [← HKL.out] at t; rw [← HKL.out]; exact t⟩
      case round =>
        obtain ⟨q, hq, rfl, hM⟩ := hrel
        have HM := hid hM
        clear hM
        by_cases hql : q < k
        · have t1 : decide (q < k) = true := decide_eq_true hql
          obtain ⟨p, hp⟩ : ∃ p, rs[q]? = some p := ⟨_, List.getElem?_eq_getElem (by rw [← HKL.out]; exact hql)⟩
          have HP := hid hp
          clear hp
          have hk30 : rs.length ≤ 30 := by rw [← HKL.out]; omega
          have hok := hid (HK.out.ok q p HP.out)
          go_wp2_with fail
          refine (rev_at rfl HM.out HP.out hk30 hok.out.2.1 hok.out.2.2.1).mono ?_
          rintro e w2 ⟨Am, c1, Ad, c2, rfl, i1, i2, hc⟩
          have I1 := hid i1
          have I2 := hid i2
          have C2 := hid hc
          have M2 := hid (HM.out.keep hc)
          clear i1 i2 hc
          simp only [rvA]
          go_wp2_with fail
          refine calls_world fun W3 hW3 => ?_
          obtain ⟨a1, ha1⟩ : ∃ x, x = w2.heap.size := ⟨_, rfl⟩
          rw [← ha1]
          have N1 := hid (show Blk W3 a1 38 (rvA p.x (.slice Am p.ms.length c1) (.slice Ad p.ds.length c2)) from by rw [hW3, ha1]; exact Blk.new w2 _ _)
          have c3 : Ch (fun _ => False) w2 W3 := by rw [hW3]; exact (Ch.refl _ w2).alloc _
          have M3 := hid (M2.out.keep c3)
          have J1 := hid (I1.out.keep c3 (fun _ _ _ _ => id))
          have J2 := hid (I2.out.keep c3 (fun _ _ _ _ => id))
          clear hW3 ha1 c3 I1 I2 M2 C2
          refine (rev_at rfl M3.out HP.out hk30 hok.out.2.1 hok.out.2.2.1).mono ?_
          rintro e w4 ⟨Bm, e1', Bd, e2', rfl, i1, i2, hc⟩
          have N4 := hid (hc.blk N1.out id)
          have K1 := hid (J1.out.keep hc (fun _ _ _ _ => id))
          have K2 := hid (J2.out.keep hc (fun _ _ _ _ => id))
          have K3 := hid i1
          have K4 := hid i2
          have M4 := hid (M3.out.keep hc)
          clear i1 i2 hc J1 J2 M3
          simp only [rvA]
          go_wp2_with fail
          refine at_world fun W5 hW5 => ?_
          obtain ⟨a2, ha2⟩ : ∃ x, x = w4.heap.size := ⟨_, rfl⟩
          rw [← ha2]
          have c5 : Ch (fun _ => False) w4 W5 := by rw [hW5]; exact (Ch.refl _ w4).alloc _
          have Q2 := hid (show Blk W5 a2 38 (rvA p.x (.slice Bm p.ms.length e1') (.slice Bd p.ds.length e2')) from by rw [hW5, ha2]; exact Blk.new w4 _ _)
          have Q1 := hid (c5.blk N4.out id)
          have M5 := hid (M4.out.keep c5)
          have L1 := hid (K1.out.keep c5 (fun _ _ _ _ => id))
          have L2 := hid (K2.out.keep c5 (fun _ _ _ _ => id))
          have L3 := hid (K3.out.keep c5 (fun _ _ _ _ => id))
          have L4 := hid (K4.out.keep c5 (fun _ _ _ _ => id))
          clear hW5 ha2 c5 K1 K2 K3 K4 M4 N4
          have hin : p ∈ rs := List.mem_of_getElem? HP.out
          obtain ⟨Wm, g1, hwm, _, _, im⟩ := own_mk (M5.out.mem_each (r := mR w.heap.size p.wm p.ms) (by simp only [keepL, List.mem_cons, List.mem_flatMap]; exact .inr (.inr (.inr ⟨p, hin, by simp [Rec.res]⟩))))
          obtain ⟨Wd, g2, hwd, _, _, id'⟩ := own_pc (M5.out.mem_each (r := dR w.heap.size p.wd p.ds) (by simp only [keepL, List.mem_cons, List.mem_flatMap]; exact .inr (.inr (.inr ⟨p, hin, by simp [Rec.res]⟩))))
          have hrow : W5.ownsRow w.heap.size 38 8 (.slice Aw k cw) rs.length (wantCells rs) := M5.out.each 2 _ rfl
          rw [← HKL.out] at hrow
          obtain ⟨gw, cgw, hvw, _, _, _, hgw⟩ := own_form hrow (by omega)
          injection hvw with hAw _ hcw
          subst hAw hcw
          have hwc : ∀ (j : Nat) (v : Value), (rvCells p.x (.slice Wm p.ms.length g1) (.slice Wd p.ds.length g2))[j]? = some v → W5.cell? ⟨gw, q * 8 + j, none⟩ = some v := fun j v hj => by
            rw [← hwm, ← hwd] at hj
            have t := hrow.cells (g := gw) rfl (q * 8 + j) v (want_get HP.out j v hj)
            rw [addr_add0] at t
            exact t
          have HW := hid hwc
          have IM := hid im
          have ID := hid id'
          have HRW := hid hrow
          clear hwc im id' hrow hwm hwd hin
          have xa0 : W5.cell? ⟨a1, 0, none⟩ = some (.int .i64 p.x.num) := Q1.out.cell 0
          have xa1 : W5.cell? ⟨a1, 1, none⟩ = some (.int .u64 p.x.at') := Q1.out.cell 1
          have xa2 : W5.cell? ⟨a1, 2, none⟩ = some (.int .i64 p.x.h) := Q1.out.cell 2
          have xa3 : W5.cell? ⟨a1, 3, none⟩ = some (.int .i64 p.x.b) := Q1.out.cell 3
          have xa4 : W5.cell? ⟨a1, 4, none⟩ = some (.int .i64 p.x.r) := Q1.out.cell 4
          have xa5 : W5.cell? ⟨a1, 5, none⟩ = some (.int .i64 p.x.l) := Q1.out.cell 5
          have xa6 : W5.cell? ⟨a1, 6, none⟩ = some (.slice Am p.ms.length c1) := Q1.out.cell 6
          have xa7 : W5.cell? ⟨a1, 7, none⟩ = some (.slice Ad p.ds.length c2) := Q1.out.cell 7
          have y0 : W5.cell? ⟨gw, q * 8, none⟩ = some (.int .i64 p.x.num) := HW.out 0 _ rfl
          have y1 : W5.cell? ⟨gw, q * 8 + 1, none⟩ = some (.int .u64 p.x.at') := HW.out 1 _ rfl
          have y2 : W5.cell? ⟨gw, q * 8 + 2, none⟩ = some (.int .i64 p.x.h) := HW.out 2 _ rfl
          have y3 : W5.cell? ⟨gw, q * 8 + 3, none⟩ = some (.int .i64 p.x.b) := HW.out 3 _ rfl
          have y4 : W5.cell? ⟨gw, q * 8 + 4, none⟩ = some (.int .i64 p.x.r) := HW.out 4 _ rfl
          have y5 : W5.cell? ⟨gw, q * 8 + 5, none⟩ = some (.int .i64 p.x.l) := HW.out 5 _ rfl
          have y6 : W5.cell? ⟨gw, q * 8 + 6, none⟩ = some (.slice Wm p.ms.length g1) := HW.out 6 _ rfl
          have y7 : W5.cell? ⟨gw, q * 8 + 7, none⟩ = some (.slice Wd p.ds.length g2) := HW.out 7 _ rfl
          refine Mix.wp_region_mix (fun _ => True) (fun i => ([0, 0, 0, 0, 0, 0, 0, 0, 0, 0, 0, 0, 2, 0, 0, 0, 0, 0, 0, 0, 0, 2, 0, 0] : List Nat).getD i 0) [0, 1, 2, 3, 4, 5, 6, 7, 8, 9, 10, 11, 12, 13, 14, 15, 16, 17, 18, 19, 20, 21, 22, 23] (by kernel_rfl) (by kernel_rfl) ?_
          repeat (first | (refine Mix.mix_q (by simp only [List.getElem?_toArray, List.getElem?_cons_zero, List.getElem?_cons_succ]; exact rfl) rfl ?_; go_big_quiet_step (fail); refine wpQuiet_nil ?_) | (refine Mix.mix_p (by simp only [List.getElem?_toArray, List.getElem?_cons_zero, List.getElem?_cons_succ]; exact rfl) rfl rfl ?_; go_big_quiet_step (fail); refine wpQuiet_nil ?_))
          refine Mix.mix_e (by simp only [List.getElem?_toArray, List.getElem?_cons_zero, List.getElem?_cons_succ]; exact rfl) rfl fun X1 hX1 => ?_
          obtain ⟨k1, rfl⟩ := hX1
          go_wp2_with fail
          have CD := hid ((Ch.refl (fun _ => False) W5).drewN k1)
          refine (eqRev_any p.x Am Ad Wm Wd p.ms.length c1 p.ds.length c2 g1 g2 p.ms p.ds (W5.drewN k1) (L1.out.keep CD.out (fun _ _ _ _ => id)) (L2.out.keep CD.out (fun _ _ _ _ => id)) (IM.out.keep CD.out (fun _ _ _ _ => id)) (ID.out.keep CD.out (fun _ _ _ _ => id)) (by have := hok.out.2.1; omega) (by have := hok.out.2.2.1; omega)).mono ?_
          rintro e W6 ⟨rfl, hc6⟩
          have C6 := hid (CD.out.trans hc6 (fun _ _ h => h))
          clear hc6 CD
          have R2 := hid (C6.out.blk Q2.out id)
          have zb0 : W6.cell? ⟨a2, 0, none⟩ = some (.int .i64 p.x.num) := R2.out.cell 0
          have zb1 : W6.cell? ⟨a2, 1, none⟩ = some (.int .u64 p.x.at') := R2.out.cell 1
          have zb2 : W6.cell? ⟨a2, 2, none⟩ = some (.int .i64 p.x.h) := R2.out.cell 2
          have zb3 : W6.cell? ⟨a2, 3, none⟩ = some (.int .i64 p.x.b) := R2.out.cell 3
          have zb4 : W6.cell? ⟨a2, 4, none⟩ = some (.int .i64 p.x.r) := R2.out.cell 4
          have zb5 : W6.cell? ⟨a2, 5, none⟩ = some (.int .i64 p.x.l) := R2.out.cell 5
          have zb6 : W6.cell? ⟨a2, 6, none⟩ = some ((.slice Bm p.ms.length e1')) := R2.out.cell 6
          have zb7 : W6.cell? ⟨a2, 7, none⟩ = some ((.slice Bd p.ds.length e2')) := R2.out.cell 7
          have wy0 : W6.cell? ⟨gw, q * 8, none⟩ = some (.int .i64 p.x.num) := (C6.out.cell (p := ⟨gw, _, none⟩) hgw id).trans y0
          have wy1 : W6.cell? ⟨gw, q * 8 + 1, none⟩ = some (.int .u64 p.x.at') := (C6.out.cell (p := ⟨gw, _, none⟩) hgw id).trans y1
          have wy2 : W6.cell? ⟨gw, q * 8 + 2, none⟩ = some (.int .i64 p.x.h) := (C6.out.cell (p := ⟨gw, _, none⟩) hgw id).trans y2
          have wy3 : W6.cell? ⟨gw, q * 8 + 3, none⟩ = some (.int .i64 p.x.b) := (C6.out.cell (p := ⟨gw, _, none⟩) hgw id).trans y3
          have wy4 : W6.cell? ⟨gw, q * 8 + 4, none⟩ = some (.int .i64 p.x.r) := (C6.out.cell (p := ⟨gw, _, none⟩) hgw id).trans y4
          have wy5 : W6.cell? ⟨gw, q * 8 + 5, none⟩ = some (.int .i64 p.x.l) := (C6.out.cell (p := ⟨gw, _, none⟩) hgw id).trans y5
          have wy6 : W6.cell? ⟨gw, q * 8 + 6, none⟩ = some (.slice Wm p.ms.length g1) := (C6.out.cell (p := ⟨gw, _, none⟩) hgw id).trans y6
          have wy7 : W6.cell? ⟨gw, q * 8 + 7, none⟩ = some (.slice Wd p.ds.length g2) := (C6.out.cell (p := ⟨gw, _, none⟩) hgw id).trans y7
          have N3 := hid (L3.out.keep C6.out (fun _ _ _ _ => id))
          have N4' := hid (L4.out.keep C6.out (fun _ _ _ _ => id))
          have N5 := hid (IM.out.keep C6.out (fun _ _ _ _ => id))
          have N6 := hid (ID.out.keep C6.out (fun _ _ _ _ => id))
          have M6 := hid (M5.out.keep C6.out)
          clear y0 y1 y2 y3 y4 y5 y6 y7 xa0 xa1 xa2 xa3 xa4 xa5 xa6 xa7 L1 L2 L3 L4 IM ID M5
          go_wp2_with fail
          repeat (first | (refine Mix.mix_q (by simp only [List.getElem?_toArray, List.getElem?_cons_zero, List.getElem?_cons_succ]; exact rfl) rfl ?_; go_big_quiet_step (fail); refine wpQuiet_nil ?_) | (refine Mix.mix_p (by simp only [List.getElem?_toArray, List.getElem?_cons_zero, List.getElem?_cons_succ]; exact rfl) rfl rfl ?_; go_big_quiet_step (fail); refine wpQuiet_nil ?_))
          refine Mix.mix_e (by simp only [List.getElem?_toArray, List.getElem?_cons_zero, List.getElem?_cons_succ]; exact rfl) rfl fun X2 hX2 => ?_
          obtain ⟨k2, rfl⟩ := hX2
          go_wp2_with fail
          have CD := hid ((Ch.refl (fun _ => False) W6).drewN k2)
          refine (eqRev_any p.x Bm Bd Wm Wd p.ms.length e1' p.ds.length e2' g1 g2 p.ms p.ds (W6.drewN k2) (N3.out.keep CD.out (fun _ _ _ _ => id)) (N4'.out.keep CD.out (fun _ _ _ _ => id)) (N5.out.keep CD.out (fun _ _ _ _ => id)) (N6.out.keep CD.out (fun _ _ _ _ => id)) (by have := hok.out.2.1; omega) (by have := hok.out.2.2.1; omega)).mono ?_
          rintro e W7 ⟨rfl, hc7⟩
          have M7 := hid ((M6.out.keep CD.out).keep hc7)
          clear hc7 CD
          go_wp2_with fail
          repeat (first | (refine Mix.mix_q (by simp only [List.getElem?_toArray, List.getElem?_cons_zero, List.getElem?_cons_succ]; exact rfl) rfl ?_; go_big_quiet_step (fail); refine wpQuiet_nil ?_) | (refine Mix.mix_p (by simp only [List.getElem?_toArray, List.getElem?_cons_zero, List.getElem?_cons_succ]; exact rfl) rfl rfl ?_; go_big_quiet_step (fail); refine wpQuiet_nil ?_))
          refine Mix.mix_nil fun W8 hW8 => ?_
          obtain ⟨k3, rfl⟩ := hW8
          go_wp2_with fail
          exact ⟨⟨q + 1, hql, by push_cast; rfl, M7.out.drewN k3⟩, by simp only [intOf]; omega⟩
        · obtain rfl : q = k := by omega
          have t1 : decide (q < q) = false := decide_eq_false (by omega)
          obtain ⟨cs, hcs, h23⟩ := HM.out.each 0 _ rfl
          have hs23 := (hcs.cell 23).trans h23
          have hk30 : q < 1000 := by omega
          rw [← HKL.out] at hs23
          have HX := hid hcs
          clear hcs h23
          go_wp2_with fail
          refine (latest_any sb q cr Ar wr hs23 hk30).mono ?_
          rintro e w' ⟨rfl, rfl⟩
          go_wp2_with fail
          go_ret
          exact ⟨rfl, HM.out.bel⟩
end Go.Proofs.Ytefpabicgefciaa
