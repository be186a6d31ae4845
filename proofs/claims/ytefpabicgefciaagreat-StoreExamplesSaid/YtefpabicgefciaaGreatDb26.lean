/- Texts XChC, XMapU8 for XChE, by trim.py. -/
import Derived.Test.YtefpabicgefciaaGreatDb22
import Derived.Test.YtefpabicgefciaaGreatDb25
import Derived.Test.YtefpabicgefciaaGreatDb10
import Derived.Test.YtefpabicgefciaaGreatDb01
import Derived.MapKept
namespace Go.Proofs.YtefpabicgefciaaGreat
open Go.RowKit
set_option linter.unusedVariables false
set_option linter.unusedSimpArgs false
set_option linter.unusedSectionVars false
/-- The store and the texts of a chain of edits, in memory. -/
structure Chn (B sb : Nat) (cs : Array Value) (rv tv : Value) (rs : List InV) (ts : List ByteArray) (W : World) : Prop where
  hb : B ≤ sb
  hs : Blk W sb 134 cs
  h23 : cs[23]? = some rv
  hr : W.ownsRow B 79 8 rv rs.length (rs.flatMap InV.cells)
  ht : W.ownsRow B 9 1 tv ts.length (ts.map .string)
  hd : ∀ r ∈ rs, W.ownsRow B 128 3 (.slice r.ad r.n2 r.c2) r.n2 (pcCells r.ds)
theorem ck_chain {s : ByteArray} {l : List Ed} (h : Shrt s l) : ckE ⟨((64 : Nat) : Int), 9, ((1 : Nat) : Int), 1, ((1 : Nat) : Int), 1, 1, s⟩ = 0 := by
  have hv : Vd (bs s) := vd_ascii _ (bs s) rfl (fun x hx => by
    unfold bs at hx
    obtain ⟨c, hc, rfl⟩ := List.mem_map.1 hx
    obtain ⟨i, hi, rfl⟩ := List.getElem_of_mem hc
    have hi' : i < s.size := by simpa [Dl.size_list] using hi
    exact ⟨by omega, h.low i hi'⟩)
  have h60 := h.sz
  unfold ckE
  rw [if_neg (fun h' => h' (by unfold Cf.nums; simp)), if_neg (by simp only; omega), if_neg]
  show ¬ vdB (bs s) = false
  rw [vdB_true hv]
  decide
theorem rope_b {s : ByteArray} {x : Rt} {ns : List An} (h : RopeRes 64 s x 0 ns) : x.b = s.size := by
  rcases h with ⟨h0, e, _⟩ | ⟨_, t, _, _, hb, ⟨_, e, _⟩ | ⟨_, _, e, _⟩⟩
  · rw [e, h0]; rfl
  · rw [e]
    show t.meas.b = _
    rw [(meas_bytes t).1, hb]
  · cases e
def rootI (x : Rt) : InV := ⟨⟨0, x.a, x.h, x.b, x.r, x.l⟩, none, 0, 0, [], none, 0, 0, []⟩
theorem chp_one {s : ByteArray} {x : Rt} (hb : x.b = s.size) (hs : s.size ≤ 60) : ChP [rootI x] [s] := by
  refine ⟨rfl, fun r hr => by simp at hr; rw [hr]; simp [rootI], fun i r hr => ?_, fun i r t t' hr _ _ => ?_⟩
  · match i, hr with
    | 0, hr =>
      injection hr with hr
      subst hr
      exact ⟨rfl, s, rfl, hb, by omega⟩
    | i + 1, hr => simp at hr
  · simp at hr
/-- What the store is at first. -/
theorem snw_chain {s : ByteArray} {l : List Ed} (h : Shrt s l) {w w' : World} {e : Ending} (hn : SnwOut 64 1 1 9 1 1 1 s w e w') :
    ∃ sb cs rv x, e = .returned (.tuple #[.pointer (some ⟨sb, 0, none⟩), .int .i64 0]) ∧ Chn w.heap.size sb cs rv (.slice none 0 0) [rootI x] [] w' ∧ x.b = s.size ∧ Ch (fun _ => False) w w' := by
  rcases hn with ⟨x, ns, hr, _⟩ | ⟨x, ns, sb, p, cb, A, qb, eb, pb, rvb, rN, cN, fv, fds, hr, _, he, _, _, _, _, _, hM⟩
  · exact absurd (rope_small hr h.sz) (by decide)
  · refine ⟨sb, _, .slice (some ⟨rvb, 0, none⟩) 1 1, x, he, ⟨hM.low 0 _ rfl sb rfl, hM.each 0 _ rfl, ?_, hM.each 3 _ rfl, World.ownsRow_nil _ _ _ _, fun r hr => ?_⟩, rope_b hr, ⟨hM.bel.os, hM.bel.tape, hM.bel.output, hM.bel.size, fun k hk _ => hM.bel.block k hk⟩⟩
    · simp [stoCells]
    · simp at hr
      rw [hr]
      exact World.ownsRow_nil _ _ _ _
theorem Chn.keep {B sb : Nat} {cs : Array Value} {rv tv : Value} {rs : List InV} {ts : List ByteArray} {W W' : World} (h : Chn B sb cs rv tv rs ts W) (c : Ch (fun _ => False) W W') : Chn B sb cs rv tv rs ts W' :=
  ⟨h.hb, c.blk h.hs id, h.h23, c.own h.hr (fun _ _ => id), c.own h.ht (fun _ _ => id), fun r hr => c.own (h.hd r hr) (fun _ _ => id)⟩
theorem tmod_bd (x : Int) (m : Nat) : -(m : Int) ≤ x.tmod ((m : Int) + 1) ∧ x.tmod ((m : Int) + 1) ≤ m := by
  have h1 := Int.natAbs_tmod x ((m : Int) + 1)
  have h2 : ((m : Int) + 1).natAbs = m + 1 := by omega
  rw [h2] at h1
  have h3 := Nat.mod_lt x.natAbs (show 0 < m + 1 by omega)
  omega
theorem at_nat (x : Int) (m : Nat) : ∃ (q : Nat) (z : Int), x.tmod ((m : Int) + 1) = z ∧ -(m : Int) ≤ z ∧ z ≤ m ∧ (z + (m : Int) + 1).tmod ((m : Int) + 1) = q ∧ q ≤ m := by
  obtain ⟨h1, h2⟩ := tmod_bd x m
  obtain ⟨j, hj⟩ : ∃ j : Nat, x.tmod ((m : Int) + 1) + (m : Int) + 1 = j := ⟨(x.tmod ((m : Int) + 1) + (m : Int) + 1).toNat, by omega⟩
  refine ⟨j % (m + 1), _, rfl, h1, h2, ?_, by have := Nat.mod_lt j (show 0 < m + 1 by omega); omega⟩
  rw [hj, show (m : Int) + 1 = ((m + 1 : Nat) : Int) by push_cast; rfl, ← Int.ofNat_tmod]
theorem gap_len (t : List UInt8) (g : Int) : (Dl.gap t g).length ≤ 2 := by
  unfold Dl.gap
  rw [List.length_append]
  split <;> split <;> simp
theorem keep_len (o : List Pc) (n : Int) : (Dl.keep o n).length ≤ o.length + 1 := by
  unfold Dl.keep
  split
  · split
    · simp
    · simp
  · simp
theorem frun_len : ∀ (d : List Pc) (st : Dl.Fs), (Dl.frun d st).out.length ≤ st.out.length + 3 * d.length
  | [], st => by simp [Dl.frun]
  | x :: d, st => by
    have ih := frun_len d (Dl.fstep st x)
    have h1 : (Dl.fstep st x).out.length ≤ st.out.length + 3 := by
      unfold Dl.fstep
      split
      · simp [Dl.fins]
      · split
        · simp [Dl.fdel]
        · have h1 := keep_len (st.out ++ Dl.gap st.t st.g) x.n
          have h2 := gap_len st.t st.g
          rw [List.length_append] at h1
          show (Dl.keep (st.out ++ Dl.gap st.t st.g) x.n).length ≤ _
          omega
    simp only [Dl.frun, List.foldl_cons, List.length_cons] at ih ⊢
    omega
theorem repl_len {m q k : Nat} (t : ByteArray) (h : q + k ≤ m) (hm : m ≤ 540) (ht : t.size ≤ 40) : (Dl.form (replL m q k t)).length < 1000 := by
  obtain ⟨r1, r2, r3⟩ := replL_sums t h
  have h1 := frun_len (replL m q k t) Dl.fzero
  have h2 := gap_len (Dl.frun (replL m q k t) Dl.fzero).t (Dl.frun (replL m q k t) Dl.fzero).g
  unfold Dl.form Dl.fend
  rw [List.length_append]
  have h3 : Dl.fzero.out.length = 0 := rfl
  omega
theorem cut_text (st t : ByteArray) (q r : Nat) : (st.extract 0 q ++ t ++ st.extract r st.size).data.toList = st.data.toList.take q ++ t.data.toList ++ st.data.toList.drop r := by
  rw [ByteArray.data_append, ByteArray.data_append, Array.toList_append, Array.toList_append]
  have h1 : (st.extract 0 q).data.toList = st.data.toList.take q := by simp [ByteArray.data_extract]
  have h2 : (st.extract r st.size).data.toList = st.data.toList.drop r := by
    simp only [ByteArray.data_extract, Array.toList_extract]
    rw [List.extract_eq_drop_take', show st.size = st.data.toList.length from (Dl.size_list _).symm, List.take_length]
  rw [h1, h2]
theorem own_apart2 {w : World} {B B' e e' s s' n m : Nat} {u v : Value} {xs ys : List Value} (h : w.ownsRow B e s u n xs) (h' : w.ownsRow B' e' s' v m ys) (ht : e ≠ e') (k : Nat) (hu : u.ownBlock = some k) : ¬ v.ownBlock = some k := by
  intro hv
  rcases h.2 with ⟨rfl, _⟩ | ⟨g, cap, cur, rfl, _, hg, _⟩
  · simp [Value.ownBlock] at hu
  · rcases h'.2 with ⟨rfl, _⟩ | ⟨g', cap', cur', rfl, _, hg', _⟩
    · simp [Value.ownBlock] at hv
    · simp [Value.ownBlock] at hu hv
      subst hu
      subst hv
      rw [hg] at hg'
      injection hg' with hg'
      injection hg' with _ h2
      exact ht h2
/-- Publish in a chain. -/
theorem chn_publish {B sb : Nat} {cs : Array Value} {rv tv : Value} {rs : List InV} {ts : List ByteArray} {w3 : World} (h : Chn B sb cs rv tv rs ts w3) {k : Nat} (hl : rs.length = k + 1) (hk : k < 900) {r0 : InV} (hr : rs[k]? = some r0) (hnum : r0.x.num = 2 * (k : Int)) (x : Rv) (hx : 2 * (k : Int) < x.num) {Ad : Option Addr} {dn cd : Nat} {ds : List Pc} (hin : InPc w3 Ad dn ds) (zd : Ad = none → cd = 0) (hdn : dn < 1000) (hB : B ≤ w3.heap.size) :
    Calls Tryz.prog 47 #[.pointer (some ⟨sb, 0, none⟩), .agg #[.int .i64 x.num, .int .u64 x.at', .int .i64 x.h, .int .i64 x.b, .int .i64 x.r, .int .i64 x.l, .slice none 0 0, .slice Ad dn cd]] w3 fun e w4 => e = .returned (.tuple #[.int .i64 ((k + 1 : Nat) : Int), .int .i64 0]) ∧ ∃ cs' rv' r, Chn B sb cs' rv' tv (rs ++ [r]) ts w4 ∧ r.x = x ∧ r.ds = ds ∧ Ch (fun j => B ≤ j) w3 w4 := by
  obtain ⟨rA, rc, hrv, _⟩ := own_slice h.hr
  have hr1 := h.hr
  have h231 := h.h23
  rw [hrv, hl] at hr1 h231
  have hlast : (rs.flatMap InV.cells)[k * 8]? = some (.int .i64 (2 * (k : Int))) := by
    have t := flat_getG InV.cells 8 (fun _ => rfl) rs k r0 hr 0 _ rfl
    rw [Nat.add_zero] at t
    rw [t, hnum]
  refine (publish_any B sb cs rA rc k (rs.flatMap InV.cells) (2 * (k : Int)) x none Ad 0 0 dn cd [] ds w3 h.hs h231 hr1 hlast hx hk hB ⟨rfl, fun h => absurd h (by decide)⟩ hin (fun _ => rfl) zd (by decide) hdn).mono ?_
  rintro e w4 ⟨rfl, mv, dv, rv', p1, p2, p3, p4, p5, p6⟩
  refine ⟨rfl, ?_⟩
  obtain ⟨mA, mc, hmv, _⟩ := own_slice p3
  obtain ⟨dA, dc, hdv, _⟩ := own_slice p4
  subst hmv
  subst hdv
  have hdl : ds.length = dn := hin.1
  have hcs : cs.size = (cs.setIfInBounds 23 rv').size := by simp
  have h23lt : 23 < cs.size := (Array.getElem?_eq_some_iff.1 h231).1
  have hfp : ∀ {e s n : Nat} {u : Value} {xs : List Value}, w3.ownsRow B e s u n xs → e ≠ 134 → e ≠ 79 → w4.ownsRow B e s u n xs := fun ho e1 e2 => p5.own ho (fun q hq hf => by
    rcases hf with rfl | hf
    · exact h.hs.own ho (Ne.symm e1) hq
    · exact own_apart2 ho hr1 e2 q hq hf)
  refine ⟨_, rv', ⟨x, mA, 0, mc, [], dA, ds.length, dc, ds⟩, ⟨h.hb, p1, by simp [h23lt], ?_, hfp h.ht (by decide) (by decide), fun r hr => ?_⟩, rfl, rfl, p5.mono (fun q hq hf => ?_)⟩
  · rw [List.length_append, hl, List.flatMap_append]
    simpa [InV.cells] using p2
  · rcases List.mem_append.1 hr with hr | hr
    · exact hfp (h.hd r hr) (by decide) (by decide)
    · simp at hr
      rw [hr]
      exact own_mono p4 hB
  · rcases hf with rfl | hf
    · exact h.hb
    · exact (hr1.lt q hf).1
/-- A text more. -/
theorem chn_text {B sb : Nat} {cs : Array Value} {rv tv tv' : Value} {rs : List InV} {ts : List ByteArray} {s2 : ByteArray} {W W' : World} (h : Chn B sb cs rv tv rs ts W) (ho : W'.ownsRow B 9 1 tv' (ts.length + 1) (ts.map .string ++ [.string s2])) (hg : W.grownBy W' tv.ownBlock) : Chn B sb cs rv tv' rs (ts ++ [s2]) W' := by
  have hC : Ch (fun k => tv.ownBlock = some k) W W' := (Ch.refl _ W).grown hg (fun k hk _ => hk)
  have hfp : ∀ {e s n : Nat} {u : Value} {xs : List Value}, W.ownsRow B e s u n xs → e ≠ 9 → W'.ownsRow B e s u n xs := fun ho2 e1 => hC.own ho2 (fun q hq hf => own_apart2 ho2 h.ht e1 q hq hf)
  refine ⟨h.hb, h.hs.grown hg (fun e => h.hs.own h.ht (by decide) e), h.h23, hfp h.hr (by decide), ?_, fun r hr => hfp (h.hd r hr) (by decide)⟩
  rw [List.length_append, List.map_append]
  exact ho
set_option maxRecDepth 100000 in
set_option maxHeartbeats 4000000 in
theorem chain_any (s : ByteArray) (a : Option Addr) (n c : Nat) (l : List Ed) (w : World) (h : InEd w a n l) (hs : Shrt s l) :
    Calls Tryz.prog 42 #[.string s, .slice a n c] w fun e w' => ∃ sb cs rv tv rs ts, e = .returned (.tuple #[.pointer (some ⟨sb, 0, none⟩), tv]) ∧ Chn w.heap.size sb cs rv tv rs ts w' ∧ ChP rs ts ∧ ts.length = n + 1 ∧ Ch (fun _ => False) w w' := by
  obtain ⟨i1, hi1, hy0, hy1, hy2⟩ := info_parts (show (Tryz.prog.info? 9).map (fun i => (i.zero, i.size, i.bytes)) = some (some (Value.string ⟨#[]⟩), 1, 16) by kernel_rfl)
  have H := hid h
  have HL := hid h.1
  have HS := hid hs
  have hn12 : n ≤ 12 := by rw [← h.1]; exact hs.len
  have hs60 : s.size ≤ 60 := hs.sz
  clear h hs
  go_enter Tryz.func42, Tryz.ntmps42
  go_wp2_with fail
  refine (snew 64 1 1 9 1 1 1 s (ck_chain HS.out) w).mono ?_
  intro e w1 hsn
  obtain ⟨sb, cs, rv, x, rfl, hchn, hxb, hc⟩ := snw_chain HS.out hsn
  have C1 := hid hc
  have K1 := hid hchn
  have HXB := hid hxb
  clear hsn hchn hc hxb
  go_wp2_with fail
  have HP0 := hid (chp_one HXB.out hs60)
  have K2 := hid (show Chn w.heap.size sb cs rv (.slice (some ⟨w1.heap.size, 0, none⟩) 1 1) [rootI x] [s] (w1.alloc (.cells #[.string s] 9)) from by
    have k := K1.out.keep ((Ch.refl (fun _ => False) w1).alloc (.cells #[.string s] 9))
    exact { k with ht := ⟨rfl, .inr ⟨w1.heap.size, 1, _, rfl, C1.out.size, Blk.new w1 _ _, Nat.le_refl _, by decide, rfl, rfl⟩⟩ })
  go_loopw [0, 8, 9] (fun sv tv i W => ∃ (k : Nat) (st : ByteArray) (cs : Array Value) (rv : Value) (rs : List InV) (ts : List ByteArray), k ≤ n ∧ sv = .string st ∧ i = .int .i64 (k : Int) ∧ Chn w.heap.size sb cs rv tv rs ts W ∧ ChP rs ts ∧ ts.length = k + 1 ∧ ts[k]? = some st ∧ Ch (fun _ => False) w W) (fun _ _ i _ => n - (intOf i).toNat)
  case atStart => exact ⟨0, s, cs, rv, [rootI x], [s], Nat.zero_le _, rfl, rfl, K2.out, HP0.out, rfl, rfl, C1.out.alloc _⟩
  case round =>
    obtain ⟨k, st, cs, rv, rs, ts, hk, rfl, rfl, hch, hcp, htl, hst, hC⟩ := hrel
    have HK := hid hch
    have HP := hid hcp
    have HC := hid hC
    have HTL := hid htl
    have HST := hid hst
    clear hch hcp hC htl hst
    by_cases hlt : k < n
    · have d1 : decide ((k : Int) < (n : Int)) = true := decide_eq_true (by omega)
      have d2 : decide (k < n) = true := decide_eq_true hlt
      obtain ⟨x, hx⟩ : ∃ x, l[k]? = some x := ⟨l[k]'(by rw [HL.out]; exact hlt), List.getElem?_eq_getElem _⟩
      obtain ⟨b, off, hab, hbl, hcell⟩ := H.out.2 (by omega)
      subst hab
      have hcc : ∀ j v, x.cells[j]? = some v → wr.cell? ⟨b, off + (k * 3 + j), none⟩ = some v := fun j v hv => (HC.out.cell (p := ⟨b, off + (k * 3 + j), none⟩) hbl id).trans (hcell k j x v hx hv)
      have c0 : wr.cell? ⟨b, off + k * 3, none⟩ = some (.int .i64 x.a) := hcc 0 _ rfl
      have c1 : wr.cell? ⟨b, off + k * 3 + 1, none⟩ = some (.int .i64 x.n) := hcc 1 _ rfl
      have c2 : wr.cell? ⟨b, off + k * 3 + 2, none⟩ = some (.string x.t) := hcc 2 _ rfl
      have HXT := hid (show x.t.size ≤ 1000 from by have := HS.out.tx x (List.mem_of_getElem? hx); omega)
      have HXT40 := hid (HS.out.tx x (List.mem_of_getElem? hx))
      have hm540 : st.size ≤ 540 := by
        obtain ⟨r, hr⟩ : ∃ r, rs[k]? = some r := ⟨rs[k]'(by rw [HP.out.len, HTL.out]; omega), List.getElem?_eq_getElem _⟩
        obtain ⟨_, t, e1, _, e2⟩ := HP.out.at' k r hr
        rw [HST.out] at e1
        injection e1 with e1
        rw [e1]; omega
      obtain ⟨m, hm⟩ : ∃ m, m = st.size := ⟨_, rfl⟩
      rw [← hm] at hm540
      have HM := hid hm
      have hm' : st.size = m := hm.symm
      obtain ⟨q, z, hz, hz1, hz2, hq, hqm⟩ := at_nat x.a m
      have wm : IntKind.i64.wrap ((m : Int) + 1) = (m : Int) + 1 := IntWalk.i64_in _ (by omega)
      have wz : IntKind.i64.wrap z = z := IntWalk.i64_in _ (by omega)
      have wz1 : IntKind.i64.wrap (z + (m : Int)) = z + (m : Int) := IntWalk.i64_in _ (by omega)
      have wz2 : IntKind.i64.wrap (z + (m : Int) + 1) = z + (m : Int) + 1 := IntWalk.i64_in _ (by omega)
      have m0 : ((m : Int) + 1 == 0) = false := by rw [beq_eq_false_iff_ne]; omega
      have m0' : ¬ ((m : Int) + 1 = 0) := by omega
      obtain ⟨u, hu⟩ : ∃ u : Nat, (m : Int) - (q : Int) = u := ⟨m - q, by omega⟩
      have wu : IntKind.i64.wrap ((m : Int) - (q : Int)) = (u : Int) := by rw [IntWalk.i64_in _ (by omega)]; exact hu
      clear hcell hcc hx hbl hm
      by_cases hu0 : u = 0
      · subst hu0
        have HQK := hid (show q + 0 ≤ m by omega)
        have HDL := hid (repl_len x.t HQK.out hm540 HXT40.out)
        go_wp2_with fail
        refine (replace_any m q (0) x.t wr HQK.out (by omega) HXT.out).mono ?_
        rintro e w2 ⟨dv0, rfl, hown, hc⟩
        obtain ⟨Ad, cd, hdv, hcd, zd, hin⟩ := own_pc hown
        subst hdv
        have CD := hid (HC.out.trans hc (fun _ _ h => h))
        have KD := hid (HK.out.keep hc)
        obtain ⟨dn, hdn⟩ : ∃ y, y = (Dl.form (replL m q (0) x.t)).length := ⟨_, rfl⟩
        rw [← hdn] at hin hcd ⊢
        have HIN := hid hin
        have HDN := hid hdn
        have hdn2 : dn < 1000 := by rw [hdn]; exact HDL.out
        have v2 : w2.cell? ⟨b, off + k * 3 + 2, none⟩ = some (.string x.t) := (hc.cell (p := ⟨b, off + k * 3 + 2, none⟩) (World.block_lt_of_cell? wr _ c2) id).trans c2
        have wq : IntKind.i64.wrap ((q : Int) + ((0 : Nat) : Int)) = ((q + (0) : Nat) : Int) := by rw [IntWalk.i64_in _ (by omega)]; push_cast; omega
        clear hown hc hin hdn c0 c1 c2
        have sz1 : (st.extract 0 q).size + x.t.size ≤ 9223372036854775807 := by have := HXT.out; rw [Dl.size_extract]; omega
        have ha1 := fun W : World => run_string_add_sum (P := Tryz.prog) W (st.extract 0 q) x.t sz1
        have sz2 : (st.extract 0 q ++ x.t).size + (st.extract (q) m).size ≤ 9223372036854775807 := by have := HXT.out; rw [ByteArray.size_append, Dl.size_extract, Dl.size_extract]; omega
        have ha2 := fun W : World => run_string_add_sum (P := Tryz.prog) W (st.extract 0 q ++ x.t) (st.extract (q) m) sz2
        go_wp2_with fail
        refine Mix.wp_region_mix (fun _ => True) (fun i => ([0, 0, 0, 0, 0, 0, 0, 0, 0, 0, 0, 0, 0, 0, 0, 0] : List Nat).getD i 0) [0, 1, 2, 3, 4, 5, 6, 7, 8, 9, 10, 11, 12, 13, 14, 15] (by kernel_rfl) (by kernel_rfl) ?_
        repeat (first | (refine Mix.mix_q (by simp only [List.getElem?_toArray, List.getElem?_cons_zero, List.getElem?_cons_succ]; exact rfl) rfl ?_; go_big_quiet_step (fail); refine wpQuiet_nil ?_) | (refine Mix.mix_p (by simp only [List.getElem?_toArray, List.getElem?_cons_zero, List.getElem?_cons_succ]; exact rfl) rfl rfl ?_; go_big_quiet_step (fail); refine wpQuiet_nil ?_))
        intro yd
        refine at_world fun w3 hw3 => ?_
        have hcd : Ch (fun _ => False) w2 w3 := hw3 ▸ (Ch.refl (fun _ => False) w2).drewN yd
        have C3 := hid (CD.out.trans hcd (fun _ _ h => h))
        have K3 := hid (KD.out.keep hcd)
        have HI3 := hid (HIN.out.keep hcd (fun _ _ _ _ => id))
        obtain ⟨s2, hs2⟩ : ∃ y, y = st.extract 0 q ++ x.t ++ st.extract (q) m := ⟨_, rfl⟩
        rw [← hs2]
        have HS2 := hid (show s2.data.toList = st.data.toList.take q ++ x.t.data.toList ++ st.data.toList.drop (q + (0)) from by rw [hs2, HM.out]; exact cut_text st x.t q (q + (0)))
        have hz2' : s2.size ≤ 1000 := by have := HXT40.out; rw [hs2, ByteArray.size_append, ByteArray.size_append, Dl.size_extract, Dl.size_extract]; omega
        have wk1 : IntKind.i64.wrap (2 * (k : Int)) = 2 * (k : Int) := IntWalk.i64_in _ (by omega)
        have wk2 : IntKind.i64.wrap (2 * (k : Int) + 2) = 2 * (k : Int) + 2 := IntWalk.i64_in _ (by omega)
        have wk3 : IntKind.i64.wrap ((k : Int) + 1) = (k : Int) + 1 := IntWalk.i64_in _ (by omega)
        clear hw3 hcd hs2 ha1 ha2 sz1 sz2 v2
        go_wp2_with fail
        obtain ⟨r0, hr0⟩ : ∃ r, rs[k]? = some r := ⟨rs[k]'(by rw [HP.out.len, HTL.out]; omega), List.getElem?_eq_getElem _⟩
        refine (chn_publish K3.out (by rw [HP.out.len, HTL.out]) (by omega) hr0 (HP.out.at' k r0 hr0).1 ⟨2 * (k : Int) + 2, 0, 0, (s2.size : Int), 0, 0⟩ (by simp only; omega) HI3.out zd hdn2 C3.out.size).mono ?_
        rintro e w4 ⟨rfl, cs', rv', r, hch4, hrx, hrd, hc4⟩
        have C4 := hid (C3.out.trans hc4 (fun i hi hf => by omega))
        have K4 := hid hch4
        have HP4 := hid (HP.out.snoc HTL.out (by omega) HST.out (by rw [← HM.out]; exact HQK.out) HXT40.out HS2.out (r := r) (by rw [hrx]) (by rw [hrx]) (by rw [hrd, HM.out]))
        clear hch4 hrx hrd hc4 hr0
        obtain ⟨tA, tc, htv, _⟩ := own_slice K4.out.ht
        have htv2 := htv
        rw [HTL.out] at htv2
        subst htv2
        have e1 : (((k + 1 : Nat) : Int) != (k : Int) + 1) = false := by simp
        have HT4 := hid (show w4.ownsRow w.heap.size 9 1 (.slice tA (k + 1) tc) (k + 1) (ts.map .string) from by have t := K4.out.ht; rw [HTL.out] at t; exact t)
        clear htv
        push_cast
        go_wp2_with (at_builtin; refine wpList_app _ rfl (.tmp 125) (.tmp 127) 107 rfl w.heap.size 9 i1 _ 1 16 Tryz.underlying107 hi1 hy0 hy1 hy2 rfl (by decide) (.slice tA (k + 1) tc) (k + 1) (ts.map .string) rfl (HT4.out.alloc (.cells #[.string s2] 9)) ⟨w4.heap.size, 0, none⟩ 1 1 [.string s2] rfl rfl ?c1 ?c2 (by decide) ?c3 ?c4 ?c5 ?c6)
        case c1 => intro j u hu; first | (rw [addr_add0]; exact (Blk.cell (Blk.new _ 9 #[.string s2]) j).trans (by simpa using hu)) | exact hu
        case c2 => first | (intro u hu; simp at hu; rw [hu]; rfl) | rfl
        case c3 => unfold maxLen; omega
        case c4 => omega
        case c5 => have hz := C4.out.size; first | (simp; omega) | omega
        case c6 =>
          intro v' w9 hown hgrow hfresh
          have K9 := hid (chn_text (K4.out.keep ((Ch.refl (fun _ => False) w4).alloc (.cells #[.string s2] 9))) (by rw [HTL.out]; exact hown) hgrow)
          have C9 := hid (Ch.grown ((C4.out).alloc (.cells #[.string s2] 9)) hgrow (fun y hy hlt2 => by
            have := (HT4.out.lt y hy).1
            omega))
          clear hown hgrow hfresh
          go_wp2_with fail
          go_roundw
          case rel => exact ⟨k + 1, s2, cs', rv', rs ++ [r], ts ++ [s2], hlt, rfl, by go_num, K9.out, HP4.out, by rw [List.length_append, HTL.out]; rfl, by rw [List.getElem?_append_right (by rw [HTL.out]; exact Nat.le_refl _), HTL.out, Nat.sub_self]; rfl, C9.out⟩
          case measure => simp [intOf]; omega
      · have d5 : decide ((0 : Int) < (u : Int)) = true := decide_eq_true (by omega)
        have d5' : decide (0 < u) = true := decide_eq_true (by omega)
        obtain ⟨q2, y, hv, hv1, hv2, hq2, hqu⟩ := at_nat x.n u
        have vm : IntKind.i64.wrap ((u : Int) + 1) = (u : Int) + 1 := IntWalk.i64_in _ (by omega)
        have vz : IntKind.i64.wrap y = y := IntWalk.i64_in _ (by omega)
        have vz1 : IntKind.i64.wrap (y + (u : Int)) = y + (u : Int) := IntWalk.i64_in _ (by omega)
        have vz2 : IntKind.i64.wrap (y + (u : Int) + 1) = y + (u : Int) + 1 := IntWalk.i64_in _ (by omega)
        have u0 : ((u : Int) + 1 == 0) = false := by rw [beq_eq_false_iff_ne]; omega
        have HQK := hid (show q + q2 ≤ m by omega)
        have HDL := hid (repl_len x.t HQK.out hm540 HXT40.out)
        go_wp2_with fail
        refine (replace_any m q (q2) x.t wr HQK.out (by omega) HXT.out).mono ?_
        rintro e w2 ⟨dv0, rfl, hown, hc⟩
        obtain ⟨Ad, cd, hdv, hcd, zd, hin⟩ := own_pc hown
        subst hdv
        have CD := hid (HC.out.trans hc (fun _ _ h => h))
        have KD := hid (HK.out.keep hc)
        obtain ⟨dn, hdn⟩ : ∃ y, y = (Dl.form (replL m q (q2) x.t)).length := ⟨_, rfl⟩
        rw [← hdn] at hin hcd ⊢
        have HIN := hid hin
        have HDN := hid hdn
        have hdn2 : dn < 1000 := by rw [hdn]; exact HDL.out
        have v2 : w2.cell? ⟨b, off + k * 3 + 2, none⟩ = some (.string x.t) := (hc.cell (p := ⟨b, off + k * 3 + 2, none⟩) (World.block_lt_of_cell? wr _ c2) id).trans c2
        have wq : IntKind.i64.wrap ((q : Int) + ((q2 : Nat) : Int)) = ((q + (q2) : Nat) : Int) := by rw [IntWalk.i64_in _ (by omega)]; push_cast; omega
        clear hown hc hin hdn c0 c1 c2
        have sz1 : (st.extract 0 q).size + x.t.size ≤ 9223372036854775807 := by have := HXT.out; rw [Dl.size_extract]; omega
        have ha1 := fun W : World => run_string_add_sum (P := Tryz.prog) W (st.extract 0 q) x.t sz1
        have sz2 : (st.extract 0 q ++ x.t).size + (st.extract (q + q2) m).size ≤ 9223372036854775807 := by have := HXT.out; rw [ByteArray.size_append, Dl.size_extract, Dl.size_extract]; omega
        have ha2 := fun W : World => run_string_add_sum (P := Tryz.prog) W (st.extract 0 q ++ x.t) (st.extract (q + q2) m) sz2
        go_wp2_with fail
        refine Mix.wp_region_mix (fun _ => True) (fun i => ([0, 0, 0, 0, 0, 0, 0, 0, 0, 0, 0, 0, 0, 0, 0, 0] : List Nat).getD i 0) [0, 1, 2, 3, 4, 5, 6, 7, 8, 9, 10, 11, 12, 13, 14, 15] (by kernel_rfl) (by kernel_rfl) ?_
        repeat (first | (refine Mix.mix_q (by simp only [List.getElem?_toArray, List.getElem?_cons_zero, List.getElem?_cons_succ]; exact rfl) rfl ?_; go_big_quiet_step (fail); refine wpQuiet_nil ?_) | (refine Mix.mix_p (by simp only [List.getElem?_toArray, List.getElem?_cons_zero, List.getElem?_cons_succ]; exact rfl) rfl rfl ?_; go_big_quiet_step (fail); refine wpQuiet_nil ?_))
        intro yd
        refine at_world fun w3 hw3 => ?_
        have hcd : Ch (fun _ => False) w2 w3 := hw3 ▸ (Ch.refl (fun _ => False) w2).drewN yd
        have C3 := hid (CD.out.trans hcd (fun _ _ h => h))
        have K3 := hid (KD.out.keep hcd)
        have HI3 := hid (HIN.out.keep hcd (fun _ _ _ _ => id))
        obtain ⟨s2, hs2⟩ : ∃ y, y = st.extract 0 q ++ x.t ++ st.extract (q + q2) m := ⟨_, rfl⟩
        rw [← hs2]
        have HS2 := hid (show s2.data.toList = st.data.toList.take q ++ x.t.data.toList ++ st.data.toList.drop (q + (q2)) from by rw [hs2, HM.out]; exact cut_text st x.t q (q + (q2)))
        have hz2' : s2.size ≤ 1000 := by have := HXT40.out; rw [hs2, ByteArray.size_append, ByteArray.size_append, Dl.size_extract, Dl.size_extract]; omega
        have wk1 : IntKind.i64.wrap (2 * (k : Int)) = 2 * (k : Int) := IntWalk.i64_in _ (by omega)
        have wk2 : IntKind.i64.wrap (2 * (k : Int) + 2) = 2 * (k : Int) + 2 := IntWalk.i64_in _ (by omega)
        have wk3 : IntKind.i64.wrap ((k : Int) + 1) = (k : Int) + 1 := IntWalk.i64_in _ (by omega)
        clear hw3 hcd hs2 ha1 ha2 sz1 sz2 v2
        go_wp2_with fail
        obtain ⟨r0, hr0⟩ : ∃ r, rs[k]? = some r := ⟨rs[k]'(by rw [HP.out.len, HTL.out]; omega), List.getElem?_eq_getElem _⟩
        refine (chn_publish K3.out (by rw [HP.out.len, HTL.out]) (by omega) hr0 (HP.out.at' k r0 hr0).1 ⟨2 * (k : Int) + 2, 0, 0, (s2.size : Int), 0, 0⟩ (by simp only; omega) HI3.out zd hdn2 C3.out.size).mono ?_
        rintro e w4 ⟨rfl, cs', rv', r, hch4, hrx, hrd, hc4⟩
        have C4 := hid (C3.out.trans hc4 (fun i hi hf => by omega))
        have K4 := hid hch4
        have HP4 := hid (HP.out.snoc HTL.out (by omega) HST.out (by rw [← HM.out]; exact HQK.out) HXT40.out HS2.out (r := r) (by rw [hrx]) (by rw [hrx]) (by rw [hrd, HM.out]))
        clear hch4 hrx hrd hc4 hr0
        obtain ⟨tA, tc, htv, _⟩ := own_slice K4.out.ht
        have htv2 := htv
        rw [HTL.out] at htv2
        subst htv2
        have e1 : (((k + 1 : Nat) : Int) != (k : Int) + 1) = false := by simp
        have HT4 := hid (show w4.ownsRow w.heap.size 9 1 (.slice tA (k + 1) tc) (k + 1) (ts.map .string) from by have t := K4.out.ht; rw [HTL.out] at t; exact t)
        clear htv
        push_cast
        go_wp2_with (at_builtin; refine wpList_app _ rfl (.tmp 125) (.tmp 127) 107 rfl w.heap.size 9 i1 _ 1 16 Tryz.underlying107 hi1 hy0 hy1 hy2 rfl (by decide) (.slice tA (k + 1) tc) (k + 1) (ts.map .string) rfl (HT4.out.alloc (.cells #[.string s2] 9)) ⟨w4.heap.size, 0, none⟩ 1 1 [.string s2] rfl rfl ?c1 ?c2 (by decide) ?c3 ?c4 ?c5 ?c6)
        case c1 => intro j u hu; first | (rw [addr_add0]; exact (Blk.cell (Blk.new _ 9 #[.string s2]) j).trans (by simpa using hu)) | exact hu
        case c2 => first | (intro u hu; simp at hu; rw [hu]; rfl) | rfl
        case c3 => unfold maxLen; omega
        case c4 => omega
        case c5 => have hz := C4.out.size; first | (simp; omega) | omega
        case c6 =>
          intro v' w9 hown hgrow hfresh
          have K9 := hid (chn_text (K4.out.keep ((Ch.refl (fun _ => False) w4).alloc (.cells #[.string s2] 9))) (by rw [HTL.out]; exact hown) hgrow)
          have C9 := hid (Ch.grown ((C4.out).alloc (.cells #[.string s2] 9)) hgrow (fun y hy hlt2 => by
            have := (HT4.out.lt y hy).1
            omega))
          clear hown hgrow hfresh
          go_wp2_with fail
          go_roundw
          case rel => exact ⟨k + 1, s2, cs', rv', rs ++ [r], ts ++ [s2], hlt, rfl, by go_num, K9.out, HP4.out, by rw [List.length_append, HTL.out]; rfl, by rw [List.getElem?_append_right (by rw [HTL.out]; exact Nat.le_refl _), HTL.out, Nat.sub_self]; rfl, C9.out⟩
          case measure => simp [intOf]; omega
    · obtain rfl : k = n := by omega
      have d1 : decide ((k : Int) < (k : Int)) = false := decide_eq_false (by omega)
      go_wp2_with fail
      go_ret2
      exact ⟨sb, cs, rv, _, rs, ts, rfl, HK.out, HP.out, HTL.out, HC.out⟩
end Go.Proofs.YtefpabicgefciaaGreat
namespace Go.Proofs.YtefpabicgefciaaGreat
open Go.RowKit
set_option linter.unusedSimpArgs false
set_option linter.unusedVariables false
/-- Block B is a map of these entries. -/
def MapAt8 (w : World) (B : Nat) (es : List (Int × Value)) : Prop := ∃ bs : List Nat, bs.length = es.length ∧ w.heap[B]? = some (.map ((es.zip bs).map fun x => ({ key := .int .u8 x.1.1, val := x.1.2, born := x.2 } : MapEntry)).toArray es.length)
theorem MapAt8.new (w : World) : MapAt8 (w.alloc (.map #[] 0)) w.heap.size [] := ⟨[], rfl, heap_alloc_new w _⟩
theorem MapAt8.ch {fp : Nat → Prop} {w w' : World} {B : Nat} {es : List (Int × Value)} (h : MapAt8 w B es) (c : Ch fp w w') (hn : ¬ fp B) : MapAt8 w' B es := by
  obtain ⟨bs, hl, hb⟩ := h
  exact ⟨bs, hl, (c.block B (Array.getElem?_eq_some_iff.1 hb).1 hn).trans hb⟩
/-- What is asked of such a map. -/
def u8At (es : List (Int × Value)) (k : Int) : Option Value := (es.find? fun x => k == x.1).map Prod.snd
theorem findNow_u8 (k : Int) : ∀ (es : List (Int × Value)) (bs : List Nat) (i : Nat), bs.length = es.length →
    ∃ r, Instr.findNow (.int .u8) (.int .u8 k) ((es.zip bs).map fun x => ({ key := .int .u8 x.1.1, val := x.1.2, born := x.2 } : MapEntry)) i = some r ∧ r.map Prod.snd = u8At es k := by
  intro es
  induction es with
  | nil => intro bs i h; exact ⟨none, by simp [Instr.findNow], rfl⟩
  | cons e es ih =>
    intro bs i h
    match bs, h with
    | b :: bs, h =>
      simp at h
      by_cases hk : k = e.1
      · exact ⟨some (i, e.2), by simp [Instr.findNow, Instr.sameNow, hk], by simp [u8At, hk]⟩
      · obtain ⟨r, h1, h2⟩ := ih bs (i + 1) h
        have hk' : (k == e.1) = false := by rw [beq_eq_false_iff_ne]; exact hk
        refine ⟨r, ?_, ?_⟩
        · simp [Instr.findNow, Instr.sameNow, hk']
          exact h1
        · rw [h2]; simp [u8At, List.find?_cons, hk']
section
variable {P : Program} {w : World} {ops : Array Oper} {rest : List Oper} {o : Oper} {a : Act} {Q : Exit → Act → World → Prop}
theorem run_insert_u8 {T kt et : TypeId} (hT : P.underlying T = some (.map kt et)) (hkt : P.underlying kt = some (.int .u8)) {B : Nat} {es : List (Int × Value)} (h : MapAt8 w B es) (key : Int) (val : Value) (hn : u8At es key = none) :
    ∃ w', (Instr.mapUpdate T (.map (some B)) (.int .u8 key) val).run P w = .ok () w' ∧ MapAt8 w' B (es ++ [(key, val)]) ∧ Ch (fun b => b = B) w w' := by
  obtain ⟨bs, hl, hb⟩ := h
  obtain ⟨r, h1, h2⟩ := findNow_u8 key es bs 0 hl
  have hr : r = none := by
    cases r with
    | none => rfl
    | some x => rw [hn] at h2; simp at h2
  subst hr
  have hc : (Instr.checkKey false 10000 kt (.int .u8 key)).run P w = .ok () w := MapKept.run_checkKey (k := .int .u8 key) hkt (by simp [MapKept.IsKey]) false 9999
  refine ⟨{ w with heap := w.heap.setIfInBounds B (.map (((es.zip bs).map fun x => ({ key := .int .u8 x.1.1, val := x.1.2, born := x.2 } : MapEntry)).toArray.push { key := .int .u8 key, val, born := es.length }) (es.length + 1)) }, ?_, ?_, ?_⟩
  · simp only [Instr.mapUpdate, Sem.run_bind, run_underlying hT, Result.andThen_ok, MapKept.run_getObj_map hb, hc]
    rw [MapKept.run_findKey hkt h1]
    simp only [Result.andThen_ok]
    exact MapKept.run_setObj_map _ hb
  · refine ⟨bs ++ [es.length], by simp [hl], ?_⟩
    have := (MapKept.heap_set (o' := .map (((es.zip bs).map fun x => ({ key := .int .u8 x.1.1, val := x.1.2, born := x.2 } : MapEntry)).toArray.push { key := .int .u8 key, val, born := es.length }) (es.length + 1)) hb).1
    rw [this]
    simp [List.zip_append hl.symm]
  · refine ⟨rfl, rfl, rfl, by simp, fun k _ hk => (MapKept.heap_set hb).2 k hk⟩
theorem wpList_insert_u8 (hgd : o.guard = none) (m k v : Operand) (T : TypeId) (ho : o.op = .insert T m k v) (kt et : TypeId) (hT : P.underlying T = some (.map kt et)) (hkt : P.underlying kt = some (.int .u8))
    (B : Nat) (es : List (Int × Value)) (h : MapAt8 w B es) (key : Int) (val : Value) (hm : a.eval m = .map (some B)) (hk : a.eval k = .int .u8 key) (hv : a.eval v = val) (hn : u8At es key = none)
    (hK : ∀ w', MapAt8 w' B (es ++ [(key, val)]) → Ch (fun b => b = B) w w' → wpList P ops Q rest (a.put o.dst undef) w') : wpList P ops Q (o :: rest) a w := by
  refine wpList_plain hgd fun K' hK' => ?_
  obtain ⟨w', hrun, r1, r2⟩ := run_insert_u8 hT hkt h key val hn
  unfold Oper.wp
  simp [execOp, ho, hm, hk, hv, hrun, Result.andThen]
  exact hK' _ _ (hK w' r1 r2)
theorem run_lookup_u8 {T kt et : TypeId} (hT : P.underlying T = some (.map kt et)) (hkt : P.underlying kt = some (.int .u8)) {B : Nat} {es : List (Int × Value)} (h : MapAt8 w B es) (key : Int) (z : Value) (hz : (zeroValue et).run P w = .ok z w) :
    (Instr.lookup T (.map (some B)) (.int .u8 key) false).run P w = .ok ((u8At es key).getD z) w := by
  obtain ⟨bs, hl, hb⟩ := h
  obtain ⟨r, h1, h2⟩ := findNow_u8 key es bs 0 hl
  have hc : ∀ b, (Instr.checkKey b 10000 kt (.int .u8 key)).run P w = .ok () w := fun b => MapKept.run_checkKey (k := .int .u8 key) hkt (by simp [MapKept.IsKey]) b 9999
  simp only [Instr.lookup, Sem.run_bind, run_underlying hT, Result.andThen_ok, MapKept.run_getObj_map hb, Sem.run_pure, hc]
  rw [MapKept.run_findKey hkt h1]
  cases r with
  | none =>
    have h2' : u8At es key = none := by rw [← h2]; rfl
    simp [hz, h2', Result.andThen]
  | some x =>
    have h2' : u8At es key = some x.2 := by rw [← h2]; rfl
    simp [h2', Result.andThen]
theorem wpList_lookup_u8 (hgd : o.guard = none) (m k : Operand) (T : TypeId) (ho : o.op = .lookup T m k false) (kt et : TypeId) (hT : P.underlying T = some (.map kt et)) (hkt : P.underlying kt = some (.int .u8))
    (B : Nat) (es : List (Int × Value)) (h : MapAt8 w B es) (key : Int) (z : Value) (hz : (zeroValue et).run P w = .ok z w) (hm : a.eval m = .map (some B)) (hk : a.eval k = .int .u8 key)
    (r : Value) (hr : (u8At es key).getD z = r) (hK : wpList P ops Q rest (a.put o.dst r) w) : wpList P ops Q (o :: rest) a w := by
  refine wpList_plain hgd fun K' hK' => ?_
  have hrun := run_lookup_u8 hT hkt h key z hz
  rw [hr] at hrun
  unfold Oper.wp
  simp [execOp, ho, hm, hk, hrun, Result.andThen]
  exact hK' _ _ hK
end
end Go.Proofs.YtefpabicgefciaaGreat
