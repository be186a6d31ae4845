/- The queue: Run.step. -/
import Derived.Test.YtpkjjlahmjijnaaQR
namespace Go.Proofs.Ytpkjjlahmjijnaa
open Go.RowKit
set_option linter.unusedVariables false
set_option linter.unusedSimpArgs false
set_option linter.unusedSectionVars false

section
variable {B p cb qb X n M m : Nat} {lv lv' vp vv vs vo vr vl : Value} {bl : List Nat} {vals st ot rs pl : List Int} {s s' : BS} {x : Xq} {gp : List (Nat × Pu)} {gq : Option (Nat × Pl)} {w0 w w' : World}
/-- A push has made a step. -/
theorem Mem.stepped (h : Mem B w0 (runL B p cb qb X n lv vp vv vs vo vr vl m bl vals s st ot rs pl gq gp) w) {k g : Nat} {q q' : Pu} (hk : gp[k]? = some (g, q)) (hQ : QueueM B w' p cb qb lv' s' (lawQ n) (pullV gq)) (hq : Blk w' g 105 (puCells qb q'))
    (c : Ch (fun b => FP p cb lv b ∨ b = g) w w') (hf : Fresh w lv lv') : Mem B w0 (runL B p cb qb X n lv' vp vv vs vo vr vl m bl vals s' st ot rs pl gq (gp.set k (g, q'))) w' := by
  have t := h.upd2 (i := 4) (j := 9 + k) (queueR B p cb qb lv' s' (lawQ n) (pullV gq)) (pushR qb (g, q')) rfl (push_at hk) (by omega) c (fun b _ hb => hb.imp (fun e => .inl e) id) hQ hq (fun b hb => by
    rcases hb with (e | e | e) | e
    · exact .inl (.inl (.inl e))
    · exact .inl (.inl (.inr (.inl e)))
    · rcases hf with e' | e'
      · exact .inl (.inl (.inr (.inr (by rw [← e']; exact e))))
      · exact .inr (e' b e)
    · exact .inl (.inr e)) (fun b hb => hb)
  have e := push_set (B := B) (p := p) (cb := cb) (qb := qb) (X := X) (n := n) (lv := lv') (vp := vp) (vv := vv) (vs := vs) (vo := vo) (vr := vr) (vl := vl) (m := m) (bl := bl) (vals := vals) (s := s') (st := st) (ot := ot) (rs := rs) (pl := pl) (gq := gq) (gp := gp) k (g, q')
  rw [← e]
  exact t
theorem Mem.setS (h : Mem B w0 (runL B p cb qb X n lv vp vv vs vo vr vl m bl vals s st ot rs pl gq gp) w) {g k : Nat} (hg : vs.ownBlock = some g) (hk : k < m) (u : Int) : Mem B w0 (runL B p cb qb X n lv vp vv vs vo vr vl m bl vals s (st.set k u) ot rs pl gq gp) (w.setCell ⟨g, k, none⟩ (.int .i64 u)) := by
  refine h.upd (i := 2) (rowR B 3 1 m vs (intV (st.set k u))) rfl ((Ch.refl (fun b => b = g) w).set (fun _ => rfl) _) (fun b _ e => by rw [e]; exact hg) ?_ (fun b hb => .inl hb)
  have := own_set (h.each 2 _ rfl) hg k hk (.int .i64 u)
  show World.ownsRow _ B _ 1 vs m (intV _)
  unfold intV at this ⊢
  rw [List.map_set]; exact this
theorem Mem.setO (h : Mem B w0 (runL B p cb qb X n lv vp vv vs vo vr vl m bl vals s st ot rs pl gq gp) w) {g k : Nat} (hg : vo.ownBlock = some g) (hk : k < m) (u : Int) : Mem B w0 (runL B p cb qb X n lv vp vv vs vo vr vl m bl vals s st (ot.set k u) rs pl gq gp) (w.setCell ⟨g, k, none⟩ (.int .i64 u)) := by
  refine h.upd (i := 3) (rowR B 3 1 m vo (intV (ot.set k u))) rfl ((Ch.refl (fun b => b = g) w).set (fun _ => rfl) _) (fun b _ e => by rw [e]; exact hg) ?_ (fun b hb => .inl hb)
  have := own_set (h.each 3 _ rfl) hg k hk (.int .i64 u)
  show World.ownsRow _ B _ 1 vo m (intV _)
  unfold intV at this ⊢
  rw [List.map_set]; exact this
theorem Mem.fine (h : Mem B w0 (runL B p cb qb X n lv vp vv vs vo vr vl m bl vals s st ot rs pl gq gp) w) : Mem B w0 (runL B p cb qb X n lv vp vv vs vo vr vl m bl vals s st ot rs pl gq gp) (w.setCell ⟨X, 8, none⟩ (.bool true)) := h.put (i := 5) rfl 8 (.bool true)

theorem RunQ.ok (h : RunQ B p cb qb X n M lv vp vv vs vo vr vl x gp gq w0 w) {k g : Nat} {q : Pu} (hk : gp[k]? = some (g, q)) : PuOk x.pl.length x.rs.length n x.rs q ∧ Pot x.rs.length q (lk x.st k) (lk x.ot k) := ⟨h.inv.pu k q (h.ps_at hk), h.inv.pot k q (h.ps_at hk)⟩
theorem pu_fr {H T n : Nat} {rs : List Int} {q : Pu} (h : PuOk H T n rs q) (hT : T ≤ 1000000) : q.ph = 4 ∨ q.ph = 0 ∨ (0 ≤ q.fr ∧ q.fr < 18446744073709551616) := by
  rcases h.ph with e | e | e | e | e
  · exact .inr (.inl e)
  · exact .inl e
  · have := h.p5 (.inl e); exact .inr (.inr (by omega))
  · have := h.p5 (.inr e); exact .inr (.inr (by omega))
  · have := h.p7 e; exact .inr (.inr (by omega))
/-- A step, wherever the push is. -/
theorem ustep_ok (B p cb qb g : Nat) (lv : Value) (s : BS) (f : Qd) (pu : Value) (q : Pu) (w : World) (h : QueueM B w p cb qb lv s f pu) (hq : Blk w g 105 (puCells qb q)) (hlen : s.lg.length < 1000000) (hB : B ≤ w.heap.size) {H T n : Nat} {rs : List Int} (ok : PuOk H T n rs q) (hT : T ≤ 1000000) :
    Calls Try.prog 28 #[.pointer (some ⟨g, 0, none⟩)] w (URes B p cb qb g lv f pu q (pustep s f q) w) := by
  rcases pu_fr ok hT with e | e | e
  · exact ustep4 B p cb qb g lv s f pu q w h hq ok.t hlen hB e
  · have : pustep s f q = (s, q) := by unfold pustep; rw [if_neg (by rw [e]; decide), if_neg (by rw [e]; decide), if_neg (by rw [e]; decide), if_neg (by rw [e]; decide)]
    rw [this]
    exact ustep0 B p cb qb g lv s f pu q w h hq ok.t hlen hB e
  · exact ustep_any B p cb qb g lv s f pu q w h hq ok.t hlen hB ⟨by have := ok.v; omega, ok.v.2⟩ e ok.ph

/-- What Run.step leaves. -/
def Stepped (B p cb qb X n M : Nat) (vp vv vs vo vl : Value) (x : Xq) (gp : List (Nat × Pu)) (gq : Option (Nat × Pl)) (w0 : World) (k g : Nat) (q : Pu) (e : Ending) (w' : World) : Prop :=
  ∃ b, e = .returned (.bool b) ∧ ∃ lv' vr', RunQ B p cb qb X n (M + 1) lv' vp vv vs vo vr' vl (x.after n k q) (gp.set k (g, (pustep x.s (lawQ n) q).2)) gq w0 w'

set_option maxRecDepth 100000 in
set_option maxHeartbeats 1000000 in
theorem rstep_idle (h : RunQ B p cb qb X n M lv vp vv vs vo vr vl x gp gq w0 w) {k g : Nat} {q : Pu} (hk : gp[k]? = some (g, q)) (h0 : q.ph = 0) :
    Calls Try.prog 23 #[.pointer (some ⟨X, 0, none⟩), .int .i64 k, .int .i64 n] w fun e w' => ∃ b, e = .returned (.bool b) ∧ RunQ B p cb qb X n M lv vp vv vs vo vr vl x gp gq w0 w' := by
  obtain ⟨gv, cv, hvp, hkm, hcv, kv, fv⟩ := own_at (h.mem.each 0 _ rfl) (ptrV_at (k := k) (g := g) (by simp [hk]))
  subst hvp
  have hq := h.mem.each (9 + k) _ (push_at hk)
  have hb := (h.mem.each 4 _ rfl : QueueM B w p cb qb lv x.s (lawQ n) (pullV gq)).b
  have Hq := hid hq
  have hpm := h.pm
  have hM := h.hM
  have x0 : w.cell? ⟨X, 0, none⟩ = some (.pointer (some ⟨p, 0, none⟩)) := (h.mem.each 5 _ rfl).cell 0
  have x2 : w.cell? ⟨X, 2, none⟩ = some (.slice (some ⟨gv, 0, none⟩) gp.length cv) := (h.mem.each 5 _ rfl).cell 2
  have H := hid h
  have HK := hid hk
  have HB := hid hb
  clear h hk hq hb
  have H0 := hid h0
  clear h0
  go_enter Try.func23, Try.ntmps23
  go_wp2_with fail
  refine Mix.wp_region_mix (fun _ => True) (fun i => ([0, 0, 0, 0, 0, 0, 0, 0, 0, 0, 0, 0, 0, 0] : List Nat).getD i 0) [0, 1, 2, 3, 4, 5, 6, 7, 8, 9, 10, 11, 12, 13] (by kernel_rfl) (by kernel_rfl) ?_
  repeat (refine Mix.mix_q (by simp only [List.getElem?_toArray, List.getElem?_cons_zero, List.getElem?_cons_succ]; exact rfl) rfl ?_; go_big_quiet_step ((go_at_call 14; exact qbl_q HB.out _)); refine wpQuiet_nil ?_)
  intro n1
  go_wp2_with fail
  refine (unext_any qb g _ q (Blk.drewN Hq.out n1)).mono ?_
  rintro e w' ⟨rfl, rfl⟩
  rw [H0.out]
  go_wp2_with fail
  go_ret
  exact ⟨true, rfl, H.out.drewN n1⟩

theorem lk_map_v {k g : Nat} {q : Pu} (hk : gp[k]? = some (g, q)) : lk (gp.map fun y => y.2.v) k = q.v := by simp [lk, List.getD_eq_getElem?_getD, hk]
theorem set_lk {l : List Int} {j : Nat} : l.set j (lk l j) = l := by
  apply List.ext_getElem?
  intro i
  rw [List.getElem?_set]
  split
  · rename_i e
    subst e
    split
    · rename_i hl; simp [lk, List.getD_eq_getElem?_getD, hl]
    · rename_i hl; simp; omega
  · rfl
theorem lk_mid {b o : List Int} {j : Nat} (h1 : j < b.length) (h2 : j < o.length) : lk (b.take j ++ o.drop j) j = lk o j := by
  simp [lk, List.getD_eq_getElem?_getD, List.getElem?_append, Nat.min_eq_left (Nat.le_of_lt h1), h1, h2]
theorem mid_step {b o : List Int} {j : Nat} (h1 : j < b.length) (h2 : j < o.length) : b.take (j + 1) ++ o.drop (j + 1) = (b.take j ++ o.drop j).set j (lk b j) := by
  have e1 : b.take (j + 1) = b.take j ++ [lk b j] := take_lk h1
  have e2 : o.drop j = lk o j :: o.drop (j + 1) := by rw [List.drop_eq_getElem_cons h2]; simp [lk, List.getD_eq_getElem?_getD, h2]
  have e3 : (b.take j).length = j := by simp; omega
  rw [e1, e2, List.set_append, if_neg (by omega), e3, Nat.sub_self, List.append_assoc]
  rfl
/-- A value was appended to the reserved ones, and the slice stored. -/
theorem Mem.resv (h : Mem B w0 (runL B p cb qb X n lv vp vv vs vo vr vl m bl vals s st ot rs pl gq gp) w) {w1 : World} {v' : Value} {y : Int} (hr : w1.ownsRow B 22 1 v' (rs ++ [y]).length (u64V (rs ++ [y]))) (hg : w.grownBy w1 vr.ownBlock) (hf : Fresh w vr v') (j : Nat) :
    Mem B w0 (runL B p cb qb X n lv vp vv vs vo v' vl m bl vals s st ot (rs ++ [y]) pl gq gp) ((w1.drewN j).setCell ⟨X, 6, none⟩ v') :=
  ((h.app (i := 6) rfl hr hg hf).drewN j).put (i := 5) rfl 6 v'

theorem pustep_v (s : BS) (f : Qd) (q : Pu) : (pustep s f q).2.v = q.v := by
  unfold pustep
  repeat' split
  all_goals rfl
theorem after_rs {k : Nat} {q : Pu} (h : ¬ (q.ph = 6 ∧ (pustep x.s (lawQ n) q).2.ph = 7)) : (x.after n k q).rs = x.rs := if_neg h
theorem after_ot {k : Nat} {q : Pu} (h : ¬ (q.ph = 6 ∧ (pustep x.s (lawQ n) q).2.ph = 7)) : (x.after n k q).ot = x.ot := if_neg h
theorem lk_nil (k : Nat) : lk [] k = 0 := by simp [lk]
theorem lk_out {l : List Int} {k : Nat} (h : l.length ≤ k) : lk l k = 0 := by simp [lk, List.getD_eq_getElem?_getD, List.getElem?_eq_none h]
theorem map_set_same {α β : Type} (f : α → β) : ∀ (l : List α) (k : Nat) (a b : α), l[k]? = some a → f b = f a → (l.set k b).map f = l.map f
  | [], k, a, b, h, _ => by simp at h
  | y :: l, 0, a, b, h, e => by simp at h; subst h; simp [e]
  | y :: l, k + 1, a, b, h, e => by simp at h; simp [map_set_same f l k a b h e]
theorem RunQ.close (h : RunQ B p cb qb X n M lv vp vv vs vo vr vl x gp gq w0 w) {k g : Nat} {q : Pu} (hk : gp[k]? = some (g, q)) (h0 : q.ph ≠ 0) (hM : M + 1 ≤ 500000) {vr' : Value}
    (m : Mem B w0 (runL B p cb qb X n lv' vp vv vs vo vr' vl gp.length (gp.map Prod.fst) (gp.map fun y => y.2.v) (pustep x.s (lawQ n) q).1 (x.st.set k (lk x.st k + 1)) (x.after n k q).ot (x.after n k q).rs x.pl gq (gp.set k (g, (pustep x.s (lawQ n) q).2))) w') :
    RunQ B p cb qb X n (M + 1) lv' vp vv vs vo vr' vl (x.after n k q) (gp.set k (g, (pustep x.s (lawQ n) q).2)) gq w0 w' := by
  obtain ⟨hinv, hlg, _, _⟩ := inv_pstep h.inv (h.ps_at hk) h0 (by have := h.rm; have := h.lg; omega)
  have hlg' : (x.after n k q).s.lg.length = x.s.lg.length + 1 := hlg
  have h1 := h.lg
  have h2 := h.pm
  have h3 := h.rm
  refine ⟨?_, ?_, hinv, by omega, by rw [List.length_set]; omega, ?_, fun j => ?_, fun j => ?_, hM, h.pull⟩
  · rw [List.length_set, map_set_same Prod.fst gp k (g, q) (g, (pustep x.s (lawQ n) q).2) hk rfl, map_set_same (fun y : Nat × Pu => y.2.v) gp k (g, q) (g, (pustep x.s (lawQ n) q).2) hk (pustep_v _ _ _)]
    exact m
  · show x.ps.set k _ = _
    rw [h.ps, List.map_set]
  · rw [hlg']
    show (if _ then x.rs ++ [q.v] else x.rs).length ≤ _
    split <;> (try simp) <;> omega
  · rw [hlg']
    show lk (x.st.set k _) j ≤ _
    have hj := h.sm j
    by_cases hjk : k = j
    · subst hjk
      by_cases hl : k < x.st.length
      · rw [lk_set _ hl]; push_cast; omega
      · rw [lk_out (by simp; omega)]; omega
    · rw [lk_set_ne _ hjk]; push_cast; omega
  · rw [hlg']
    show lk (if _ then bumped _ _ _ x.ot else x.ot) j ≤ _
    have hj := h.om j
    split
    · by_cases hl : j < x.ot.length
      · rw [lk_bumped hl]
        split <;> push_cast <;> omega
      · rw [lk_out (by rw [bumped_length]; omega)]; omega
    · push_cast; omega

set_option maxRecDepth 100000 in
set_option maxHeartbeats 4000000 in
theorem rstep_live (h : RunQ B p cb qb X n M lv vp vv vs vo vr vl x gp gq w0 w) {k g : Nat} {q : Pu} (hk : gp[k]? = some (g, q)) (h0 : q.ph ≠ 0) (hM : M + 1 ≤ 500000) :
    Calls Try.prog 23 #[.pointer (some ⟨X, 0, none⟩), .int .i64 k, .int .i64 n] w (Stepped B p cb qb X n M vp vv vs vo vl x gp gq w0 k g q) := by
  obtain ⟨hls, hlo⟩ := h.lens
  obtain ⟨ok, pt⟩ := h.ok hk
  obtain ⟨gv, cv, hvp, hkm, hcv, kv, fv⟩ := own_at (h.mem.each 0 _ rfl) (ptrV_at (k := k) (g := g) (by simp [hk]))
  obtain ⟨gs, cs, hvs, _, hcs, ks0, fs0⟩ := own_at (h.mem.each 2 _ rfl) (intV_at (k := k) (by omega))
  obtain ⟨go, co, hvo, _, hco, _, _⟩ := own_at (h.mem.each 3 _ rfl) (intV_at (k := k) (by omega))
  obtain ⟨gw, cw, hvv, _, hcw, _, _⟩ := own_at (h.mem.each 1 _ rfl) (u64V_at (k := k) (by simpa using hkm))
  obtain ⟨Ar, cr, hvr, _⟩ := own_slice (h.mem.each 6 _ rfl)
  subst hvp hvs hvo hvv hvr
  have hq := h.mem.each (9 + k) _ (push_at hk)
  have hb := (h.mem.each 4 _ rfl : QueueM B w p cb qb lv x.s (lawQ n) (pullV gq)).b
  have Hq := hid hq
  have hpm := h.pm
  have hsM := h.sm k
  have hlM := h.lg
  have hrM := h.rm
  obtain ⟨hinv, hlg, href, hleft⟩ := inv_pstep h.inv (h.ps_at hk) h0 (by omega)
  have hps0 := h.ps_at hk
  have x0 : w.cell? ⟨X, 0, none⟩ = some (.pointer (some ⟨p, 0, none⟩)) := (h.mem.each 5 _ rfl).cell 0
  have x2 : w.cell? ⟨X, 2, none⟩ = some (.slice (some ⟨gv, 0, none⟩) gp.length cv) := (h.mem.each 5 _ rfl).cell 2
  have H := hid h
  have HK := hid hk
  have HB := hid hb
  have OK := hid ok
  have PT := hid pt
  have b0 : (q.ph == 0) = false := by rw [beq_eq_false_iff_ne]; exact h0
  have H0 := hid h0
  have HINV := hid hinv
  have HLG := hid hlg
  have HREF := hid href
  have HPS := hid hps0
  clear h hk hq hb ok pt h0 hinv hlg href hleft hps0 ks0 fs0
  go_enter Try.func23, Try.ntmps23
  go_wp2_with fail
  refine Mix.wp_region_mix (fun _ => True) (fun i => ([0, 0, 0, 0, 0, 0, 0, 0, 0, 0, 0, 0, 0, 0] : List Nat).getD i 0) [0, 1, 2, 3, 4, 5, 6, 7, 8, 9, 10, 11, 12, 13] (by kernel_rfl) (by kernel_rfl) ?_
  repeat (refine Mix.mix_q (by simp only [List.getElem?_toArray, List.getElem?_cons_zero, List.getElem?_cons_succ]; exact rfl) rfl ?_; go_big_quiet_step ((go_at_call 14; exact qbl_q HB.out _)); refine wpQuiet_nil ?_)
  intro n1
  go_wp2_with fail
  refine calls_world fun W1 hW1 => ?_
  have h1 := H.out.drewN n1
  rw [← hW1] at h1
  have hq1 := h1.mem.each (9 + k) _ (push_at HK.out)
  have H1 := hid h1
  clear hW1 x0 x2 kv fv h1
  refine (unext_any qb g _ q hq1).mono ?_
  rintro e w' ⟨rfl, rfl⟩
  clear hq1
  go_wp2_with fail
  refine (ustep_ok B p cb qb g lv x.s (lawQ n) (pullV gq) q W1 (H1.out.mem.each 4 _ rfl) (H1.out.mem.each (9 + k) _ (push_at HK.out)) (by omega) H1.out.mem.bz OK.out (by omega)).mono ?_
  rintro e w2 ⟨rfl, lv', hQ2, hq2, c2, f2⟩
  obtain ⟨o, ho⟩ : ∃ o, o = pustep x.s (lawQ n) q := ⟨_, rfl⟩
  rw [← ho] at hQ2 hq2 ⊢
  have m2 := H1.out.mem.stepped HK.out hQ2 hq2 c2 f2
  have M2 := hid m2
  have hlg := HLG.out
  rw [← ho] at hlg
  have hT : lk o.1.vs 1 = ((x.after n k q).rs.length : Nat) := by have := HINV.out.hT; rw [show (x.after n k q).s = o.1 by rw [ho]; rfl] at this; exact this
  have hH : lk o.1.vs 0 = (x.pl.length : Nat) := by have := HINV.out.hH; rw [show (x.after n k q).s = o.1 by rw [ho]; rfl] at this; exact this
  have hle : x.pl.length ≤ (x.after n k q).rs.length := HINV.out.le
  have hroom : (x.after n k q).rs.length ≤ x.pl.length + n := HINV.out.room
  have hn64 := HINV.out.n2
  have hpot := PT.out.s0
  obtain ⟨R, hR⟩ : ∃ R, R = (x.after n k q).rs := ⟨_, rfl⟩
  have hRl : R.length ≤ x.rs.length + 1 := by
    rw [hR]; show (if _ then x.rs ++ [q.v] else x.rs).length ≤ _
    split <;> simp
  rw [← hR] at hT hle hroom
  have HT := hid hT
  have HH := hid hH
  have HR := hid hR
  have HO := hid ho
  have HL := hid (show ((o.1.lg.length : Nat) : Int) = (x.s.lg.length : Int) + 1 by rw [hlg]; simp)
  have ks : w2.cell? ⟨gs, k, none⟩ = some (.int .i64 (lk x.st k)) := by
    obtain ⟨g', c', e', _, _, hc', _⟩ := own_at (m2.each 2 _ rfl) (intV_at (k := k) (by omega))
    injection e' with e1
    injection e1 with e1
    injection e1 with e1
    subst e1
    exact hc'
  have fs : w2.frozen? ⟨gs, k, none⟩ = false := by
    obtain ⟨g', c', e', _, _, _, hf'⟩ := own_at (m2.each 2 _ rfl) (intV_at (k := k) (by omega))
    injection e' with e1
    injection e1 with e1
    injection e1 with e1
    subst e1
    exact hf'
  have nXs : X ≠ gs := fun e => m2.apart 5 2 _ _ rfl rfl (by decide) X rfl (by show Value.ownBlock _ = _; rw [e]; rfl)
  have nsX := Ne.symm nXs
  have x0 : w2.cell? ⟨X, 0, none⟩ = some (.pointer (some ⟨p, 0, none⟩)) := (m2.each 5 _ rfl).cell 0
  have x1 : w2.cell? ⟨X, 1, none⟩ = some (.pointer (some ⟨qb, 0, none⟩)) := (m2.each 5 _ rfl).cell 1
  have x2 : w2.cell? ⟨X, 2, none⟩ = some (.slice (some ⟨gv, 0, none⟩) gp.length cv) := (m2.each 5 _ rfl).cell 2
  have x4 : w2.cell? ⟨X, 4, none⟩ = some (.slice (some ⟨gs, 0, none⟩) gp.length cs) := (m2.each 5 _ rfl).cell 4
  have x8 : w2.cell? ⟨X, 8, none⟩ = some (.bool true) := (m2.each 5 _ rfl).cell 8
  have HQ2 := hid hQ2
  clear hQ2 hq2 c2 f2 m2 hT hH hR ho hlg
  go_wp2_with fail
  refine calls_world fun W3 hW3 => ?_
  have m3 : Mem B w0 (runL B p cb qb X n lv' (.slice (some ⟨gv, 0, none⟩) gp.length cv) (.slice (some ⟨gw, 0, none⟩) gp.length cw) (.slice (some ⟨gs, 0, none⟩) gp.length cs) (.slice (some ⟨go, 0, none⟩) gp.length co) (.slice Ar x.rs.length cr) vl gp.length (gp.map Prod.fst) (gp.map fun y => y.2.v) o.1 (x.st.set k (lk x.st k + 1)) x.ot x.rs x.pl gq (gp.set k (g, o.2))) W3 := by rw [hW3]; exact M2.out.setS rfl hkm _
  have M3 := hid m3
  clear hW3 x0 x1 x2 x4 x8 ks fs
  have x1 : W3.cell? ⟨X, 1, none⟩ = some (.pointer (some ⟨qb, 0, none⟩)) := (m3.each 5 _ rfl).cell 1
  have x8 : W3.cell? ⟨X, 8, none⟩ = some (.bool true) := (m3.each 5 _ rfl).cell 8
  refine (len_any B p cb lv' o.1 W3 (show QueueM B W3 p cb qb lv' o.1 (lawQ n) (pullV gq) from m3.each 4 _ rfl).b).mono ?_
  rintro e w' ⟨rfl, rfl⟩
  rw [HL.out]
  clear m3
  go_wp2_with fail
  refine (qlen_any B p cb qb lv' o.1 (lawQ n) (pullV gq) W3 (M3.out.each 4 _ rfl) x.pl.length R.length HH.out HT.out hle (by omega)).mono ?_
  rintro e w' ⟨rfl, n3, rfl⟩
  have d1 : decide (((R.length - x.pl.length : Nat) : Int) ≤ (n : Int)) = true := decide_eq_true (by omega)
  have d2 : ((R.length - x.pl.length : Nat) : Int) ≤ (n : Int) := by omega
  clear x1 x8
  have m3d := M3.out.drewN n3
  have M4 := hid m3d.fine
  have x0 : (W3.drewN n3).cell? ⟨X, 0, none⟩ = some (.pointer (some ⟨p, 0, none⟩)) := (m3d.each 5 _ rfl).cell 0
  have x1 : (W3.drewN n3).cell? ⟨X, 1, none⟩ = some (.pointer (some ⟨qb, 0, none⟩)) := (m3d.each 5 _ rfl).cell 1
  have x2 : (W3.drewN n3).cell? ⟨X, 2, none⟩ = some (.slice (some ⟨gv, 0, none⟩) gp.length cv) := (m3d.each 5 _ rfl).cell 2
  have x3 : (W3.drewN n3).cell? ⟨X, 3, none⟩ = some (.slice (some ⟨gw, 0, none⟩) gp.length cw) := (m3d.each 5 _ rfl).cell 3
  have x4 : (W3.drewN n3).cell? ⟨X, 4, none⟩ = some (.slice (some ⟨gs, 0, none⟩) gp.length cs) := (m3d.each 5 _ rfl).cell 4
  have x5 : (W3.drewN n3).cell? ⟨X, 5, none⟩ = some (.slice (some ⟨go, 0, none⟩) gp.length co) := (m3d.each 5 _ rfl).cell 5
  have x6 : (W3.drewN n3).cell? ⟨X, 6, none⟩ = some (.slice Ar x.rs.length cr) := (m3d.each 5 _ rfl).cell 6
  have x8 : (W3.drewN n3).cell? ⟨X, 8, none⟩ = some (.bool true) := (m3d.each 5 _ rfl).cell 8
  have f8 := Blk.free (m3d.each 5 _ rfl) 8
  clear m3d
  by_cases h6 : q.ph = 6
  · have b6 : (q.ph == 6) = true := by rw [beq_iff_eq]; exact h6
    by_cases h7 : o.2.ph = 7
    · have b7 : (o.2.ph == 7) = true := by rw [beq_iff_eq]; exact h7
      have hhit : q.ph = 6 ∧ (pustep x.s (lawQ n) q).2.ph = 7 := ⟨h6, by rw [← HO.out]; exact h7⟩
      have bd : (o.2.ph == 0) = false := by rw [beq_eq_false_iff_ne, h7]; decide
      have HHIT := hid hhit
      have H7 := hid h7
      clear h6 h7 hhit
      go_wp2_with fail
      refine calls_world fun W4 hW4 => ?_
      have m4 : Mem B w0 (runL B p cb qb X n lv' (.slice (some ⟨gv, 0, none⟩) gp.length cv) (.slice (some ⟨gw, 0, none⟩) gp.length cw) (.slice (some ⟨gs, 0, none⟩) gp.length cs) (.slice (some ⟨go, 0, none⟩) gp.length co) (.slice Ar x.rs.length cr) vl gp.length (gp.map Prod.fst) (gp.map fun y => y.2.v) o.1 (x.st.set k (lk x.st k + 1)) x.ot x.rs x.pl gq (gp.set k (g, o.2))) W4 := by rw [hW4]; exact M4.out
      have M5 := hid m4
      clear hW4 x0 x1 x2 x3 x4 x5 x6 x8 f8
      have hq4 := m4.each (9 + k) _ (push_at (k := k) (g := g) (q := o.2) (by simp [(List.getElem?_eq_some_iff.1 HK.out).1]))
      refine (unext_any qb g W4 o.2 hq4).mono ?_
      rintro e w' ⟨rfl, rfl⟩
      clear hq4 M4
      
      obtain ⟨S, hS⟩ : ∃ S : Nat → Prop, ∀ k, S k ↔ k = X := ⟨_, fun _ => Iff.rfl⟩
      have hSp : Mix.Has S X := (hS _).2 rfl
      have HS := hid hS
      obtain ⟨i0, hi, hz0, hz1, hz2⟩ := info_parts Try.infoU64
      have hXlt : X < W4.heap.size := Blk.lt (m4.each 5 _ rfl)
      have kw : W4.cell? ⟨gw, k, none⟩ = some (.int .u64 q.v) := by
        obtain ⟨g', c', e', _, _, hc', _⟩ := own_at (m4.each 1 _ rfl) (u64V_at (k := k) (by simpa using hkm))
        injection e' with e1
        injection e1 with e1
        injection e1 with e1
        subst e1
        rw [hc', lk_map_v HK.out]
      have x3 : W4.cell? ⟨X, 3, none⟩ = some (.slice (some ⟨gw, 0, none⟩) gp.length cw) := (m4.each 5 _ rfl).cell 3
      have x6 : W4.cell? ⟨X, 6, none⟩ = some (.slice Ar x.rs.length cr) := (m4.each 5 _ rfl).cell 6
      clear m4 hS
      go_wp2_with fail
      refine Mix.wp_region_mix S (fun i => ([1, 1, 1, 1, 4, 0, 0, 0, 0, 0, 0, 0, 3, 2, 0, 0, 2] : List Nat).getD i 0) [0, 1, 2, 3, 4, 5, 6, 7, 8, 9, 10, 11, 12, 13, 14, 15, 16] (by kernel_rfl) (by kernel_rfl) ?_
      repeat (first | (refine Mix.mix_q (by simp only [List.getElem?_toArray, List.getElem?_cons_zero, List.getElem?_cons_succ]; exact rfl) rfl ?_; go_big_quiet_step (fail); refine wpQuiet_nil ?_) | (refine Mix.mix_p (by simp only [List.getElem?_toArray, List.getElem?_cons_zero, List.getElem?_cons_succ]; exact rfl) rfl rfl ?_; go_big_quiet_step (fail); refine wpQuiet_nil ?_) | (refine Mix.mix_s (by simp only [List.getElem?_toArray, List.getElem?_cons_zero, List.getElem?_cons_succ]; exact rfl) rfl rfl ?_; go_big_quiet_step (fail); refine wpQuiet_nil ?_))
      refine Mix.mix_a (by simp only [List.getElem?_toArray, List.getElem?_cons_zero, List.getElem?_cons_succ]; exact rfl) rfl fun W5 hW5 => ?_
      obtain ⟨n5, rfl⟩ := hW5
      go_wp2_with fail
      refine ⟨fun j hj => ((Ch.refl (fun _ => False) (W4.drewN n5)).alloc _).block j (by rw [(HS.out j).1 hj]; exact hXlt) id, Mix.mix_world fun W6 hW6 => ?_⟩
      have cW : Ch (fun _ => False) W4 W6 := by rw [hW6]; exact Ch.push rfl rfl rfl rfl
      have nW : Blk W6 W4.heap.size 22 #[.int .u64 q.v] := by rw [hW6]; exact Blk.push rfl
      clear hW6
      refine Mix.mix_e (by simp only [List.getElem?_toArray, List.getElem?_cons_zero, List.getElem?_cons_succ]; exact rfl) rfl fun W7 hW7 => ?_
      obtain ⟨n7, rfl⟩ := hW7
      have M7 := hid (M5.out.keep (cW.drewN n7))
      refine wpList_app _ rfl _ _ 40 rfl B 22 i0 _ 1 8 Try.underlying40 hi hz0 hz1 hz2 rfl (by decide) _ _ _ rfl (M7.out.each 6 _ rfl) ⟨W4.heap.size, 0, none⟩ 1 1 [.int .u64 q.v] rfl rfl ?c1 ?c2 (by decide) ?c3 ?c4 ?c5 ?_
      case c1 =>
        intro j u hu
        rw [addr_add0, (nW.drewN n7).cell j]
        simpa using hu
      case c2 => intro u hu; simp at hu; subst hu; rfl
      case c3 => unfold maxLen; omega
      case c4 => omega
      case c5 => exact M7.out.bz
      intro v' w8 hown hgrow hfresh
      obtain ⟨A8, c8, hv8, _⟩ := own_slice hown
      subst hv8
      have mX : Blk w8 X 51 (runCells p qb (.slice (some ⟨gv, 0, none⟩) gp.length cv) (.slice (some ⟨gw, 0, none⟩) gp.length cw) (.slice (some ⟨gs, 0, none⟩) gp.length cs) (.slice (some ⟨go, 0, none⟩) gp.length co) (.slice Ar x.rs.length cr) vl) := (M7.out.app (i := 6) (xs' := u64V (x.rs ++ [q.v])) (n' := (x.rs ++ [q.v]).length) rfl (by simpa [u64V] using hown) hgrow hfresh).each 5 _ rfl
      have fX := mX.free 6
      have cX : w8.cell? ⟨X, 6, none⟩ = some (.slice Ar x.rs.length cr) := mX.cell 6
      have M8 := hid (fun j => M7.out.resv (y := q.v) (by simpa [u64V] using hown) hgrow hfresh j)
      clear cW nW hgrow hfresh hown x3 x6 kw mX
      go_wp2_with fail
      repeat (first | (refine Mix.mix_q (by simp only [List.getElem?_toArray, List.getElem?_cons_zero, List.getElem?_cons_succ]; exact rfl) rfl ?_; go_big_quiet_step (fail); refine wpQuiet_nil ?_) | (refine Mix.mix_p (by simp only [List.getElem?_toArray, List.getElem?_cons_zero, List.getElem?_cons_succ]; exact rfl) rfl rfl ?_; go_big_quiet_step (fail); refine wpQuiet_nil ?_))
      refine Mix.mix_e (by simp only [List.getElem?_toArray, List.getElem?_cons_zero, List.getElem?_cons_succ]; exact rfl) rfl fun W9 hW9 => ?_
      obtain ⟨n9, rfl⟩ := hW9
      go_wp2_with fail
      intro n10
      go_wp2_with fail
      obtain ⟨b, hb⟩ : ∃ b, b = bumped k (x.ps.set k o.2) (x.st.set k (lk x.st k + 1)) x.ot := ⟨_, rfl⟩
      have hbl : b.length = gp.length := by rw [hb, bumped_length, hlo]
      have HBD := hid hb
      have hx9 : lk x.ot 0 = lk x.ot 0 := rfl
      have m9 : Mem B w0 (runL B p cb qb X n lv' (.slice (some ⟨gv, 0, none⟩) gp.length cv) (.slice (some ⟨gw, 0, none⟩) gp.length cw) (.slice (some ⟨gs, 0, none⟩) gp.length cs) (.slice (some ⟨go, 0, none⟩) gp.length co) (.slice A8 (x.rs.length + 1) c8) vl gp.length (gp.map Prod.fst) (gp.map fun y => y.2.v) o.1 (x.st.set k (lk x.st k + 1)) (b.take 0 ++ x.ot.drop 0) (x.rs ++ [q.v]) x.pl gq (gp.set k (g, o.2))) (((w8.drewN n9).setCell ⟨X, 6, none⟩ (.slice A8 (x.rs.length + 1) c8)).drewN n10) := (M8.out n9).drewN n10
      clear hb fX hx9 cX
      have M9 := hid m9
      clear m9 M8 M7 M5
      go_loopw [11] (fun i wr => ∃ j : Nat, j ≤ gp.length ∧ i = .int .i64 j ∧ Mem B w0 (runL B p cb qb X n lv' (.slice (some ⟨gv, 0, none⟩) gp.length cv) (.slice (some ⟨gw, 0, none⟩) gp.length cw) (.slice (some ⟨gs, 0, none⟩) gp.length cs) (.slice (some ⟨go, 0, none⟩) gp.length co) (.slice A8 (x.rs.length + 1) c8) vl gp.length (gp.map Prod.fst) (gp.map fun y => y.2.v) o.1 (x.st.set k (lk x.st k + 1)) (b.take j ++ x.ot.drop j) (x.rs ++ [q.v]) x.pl gq (gp.set k (g, o.2))) wr) (fun i _ => gp.length - (intOf i).toNat)
      case atStart => exact ⟨0, Nat.zero_le _, rfl, M9.out⟩
      case round =>
        obtain ⟨j, hj, rfl, mr⟩ := hrel
        have MR := hid mr
        have x2 : wr.cell? ⟨X, 2, none⟩ = some (.slice (some ⟨gv, 0, none⟩) gp.length cv) := (mr.each 5 _ rfl).cell 2
        clear M9
        by_cases hlt : j < gp.length
        · have d5 : decide (j < gp.length) = true := decide_eq_true hlt
          have d5' : decide ((j : Int) < (gp.length : Int)) = true := decide_eq_true (by omega)
          have hotj : lk (b.take j ++ x.ot.drop j) j = lk x.ot j := lk_mid (by omega) (by omega)
          have holen : (b.take j ++ x.ot.drop j).length = gp.length := by simp; omega
          have hstep : b.take (j + 1) ++ x.ot.drop (j + 1) = (b.take j ++ x.ot.drop j).set j (lk b j) := mid_step (by omega) (by omega)
          have hbj : lk b j = if j ≠ k ∧ 0 < lk (x.st.set k (lk x.st k + 1)) j ∧ ((x.ps.set k o.2)[j]?.map Pu.ph) ≠ some 0 then lk x.ot j + 1 else lk x.ot j := by rw [HBD.out]; exact lk_bumped (by omega)
          have HSTEP := hid hstep
          have HBJ := hid hbj
          have HOTJ := hid hotj
          have HLEN := hid holen
          have homj := H.out.om j
          have hom0 : 0 ≤ lk x.ot j := by
            obtain ⟨y, hy⟩ : ∃ y, gp[j]? = some y := ⟨_, List.getElem?_eq_getElem hlt⟩
            exact (H.out.ok (q := y.2) (g := y.1) hy).2.m0
          clear hstep hbj hotj holen
          by_cases hjk : j = k
          · have e1 : ((j : Int) != (k : Int)) = false := by rw [bne_eq_false_iff_eq]; omega
            have hsame : b.take (j + 1) ++ x.ot.drop (j + 1) = b.take j ++ x.ot.drop j := by rw [HSTEP.out, HBJ.out, if_neg (fun e => e.1 hjk), ← HOTJ.out]; exact set_lk
            have HSAME := hid hsame
            clear hsame hjk
            go_wp2_with fail
            go_roundw
            case rel => exact ⟨j + 1, by omega, by go_num, by rw [HSAME.out]; exact MR.out⟩
            case measure => simp [intOf]; omega
          · have e1 : ((j : Int) != (k : Int)) = true := by rw [bne_iff_ne]; omega
            have hst : lk (x.st.set k (lk x.st k + 1)) j = lk x.st j := lk_set_ne _ (Ne.symm hjk)
            obtain ⟨⟨gj, qj⟩, hgj⟩ : ∃ y, gp[j]? = some y := ⟨_, List.getElem?_eq_getElem hlt⟩
            have hpsj : (x.ps.set k o.2)[j]? = some qj := by rw [set_other hjk]; exact H.out.ps_at hgj
            have ksj : wr.cell? ⟨gs, j, none⟩ = some (.int .i64 (lk x.st j)) := by
              obtain ⟨g', c', e', _, _, hc', _⟩ := own_at (mr.each 2 _ rfl) (intV_at (k := j) (by simp; omega))
              injection e' with e1
              injection e1 with e1
              injection e1 with e1
              subst e1
              rw [hc', hst]
            have kvj : wr.cell? ⟨gv, j, none⟩ = some (.pointer (some ⟨gj, 0, none⟩)) := by
              obtain ⟨g', c', e', _, _, hc', _⟩ := own_at (mr.each 0 _ rfl) (ptrV_at (k := j) (g := gj) (by simp [hgj]))
              injection e' with e1
              injection e1 with e1
              injection e1 with e1
              subst e1
              exact hc'
            have hqj := mr.each (9 + j) _ (push_at (k := j) (g := gj) (q := qj) (by rw [List.getElem?_set, if_neg (Ne.symm hjk)]; exact hgj))
            have x4 : wr.cell? ⟨X, 4, none⟩ = some (.slice (some ⟨gs, 0, none⟩) gp.length cs) := (mr.each 5 _ rfl).cell 4
            have HHJ := hid hjk
            have HPJ := hid hpsj
            have HST := hid hst
            have HQJ := hid hqj
            clear hjk hst hpsj hgj hqj
            by_cases hpos : 0 < lk x.st j
            · have e2 : decide (0 < lk x.st j) = true := decide_eq_true hpos
              go_wp2_with fail
              refine (unext_any qb gj wr qj HQJ.out).mono ?_
              rintro e w' ⟨rfl, rfl⟩
              by_cases hz : qj.ph = 0
              · have e3 : (qj.ph != 0) = false := by rw [bne_eq_false_iff_eq]; exact hz
                have hsame : b.take (j + 1) ++ x.ot.drop (j + 1) = b.take j ++ x.ot.drop j := by rw [HSTEP.out, HBJ.out, if_neg (fun e => e.2.2 (by rw [HPJ.out]; exact congrArg some hz)), ← HOTJ.out]; exact set_lk
                have HSAME := hid hsame
                clear hsame hz
                go_wp2_with fail
                go_roundw
                case rel => exact ⟨j + 1, by omega, by go_num, by rw [HSAME.out]; exact MR.out⟩
                case measure => simp [intOf]; omega
              · have e3 : (qj.ph != 0) = true := by rw [bne_iff_ne]; exact hz
                have hup : b.take (j + 1) ++ x.ot.drop (j + 1) = (b.take j ++ x.ot.drop j).set j (lk x.ot j + 1) := by rw [HSTEP.out, HBJ.out, if_pos ⟨HHJ.out, by rw [HST.out]; exact hpos, by rw [HPJ.out]; exact fun e => hz (Option.some.inj e)⟩]
                have HUP := hid hup
                have koj : wr.cell? ⟨go, j, none⟩ = some (.int .i64 (lk x.ot j)) := by
                  obtain ⟨g', c', e', _, _, hc', _⟩ := own_at (MR.out.each 3 _ rfl) (intV_at (k := j) (by rw [HLEN.out]; exact hlt))
                  injection e' with e1
                  injection e1 with e1
                  injection e1 with e1
                  subst e1
                  rw [hc', HOTJ.out]
                have foj : wr.frozen? ⟨go, j, none⟩ = false := by
                  obtain ⟨g', c', e', _, _, _, hf'⟩ := own_at (MR.out.each 3 _ rfl) (intV_at (k := j) (by rw [HLEN.out]; exact hlt))
                  injection e' with e1
                  injection e1 with e1
                  injection e1 with e1
                  subst e1
                  exact hf'
                have x5 : wr.cell? ⟨X, 5, none⟩ = some (.slice (some ⟨go, 0, none⟩) gp.length co) := (MR.out.each 5 _ rfl).cell 5
                clear hup hz mr
                go_wp2_with fail
                go_roundw
                case rel => exact ⟨j + 1, by omega, by go_num, by rw [HUP.out]; exact MR.out.setO rfl hlt _⟩
                case measure => simp [intOf]; omega
            · have e2 : decide (0 < lk x.st j) = false := decide_eq_false hpos
              have hsame : b.take (j + 1) ++ x.ot.drop (j + 1) = b.take j ++ x.ot.drop j := by rw [HSTEP.out, HBJ.out, if_neg (fun e => hpos (by rw [← HST.out]; exact e.2.1)), ← HOTJ.out]; exact set_lk
              have HSAME := hid hsame
              clear hsame mr
              go_wp2_with fail
              go_roundw
              case rel => exact ⟨j + 1, by omega, by go_num, by rw [HSAME.out]; exact MR.out⟩
              case measure => simp [intOf]; omega
        · obtain rfl : j = gp.length := by omega
          have d5 : decide (gp.length < gp.length) = false := decide_eq_false (by omega)
          have d5' : decide ((gp.length : Int) < (gp.length : Int)) = false := decide_eq_false (by omega)
          clear mr
          go_wp2_with fail
          go_ret
          refine ⟨_, rfl, lv', .slice A8 (x.rs.length + 1) c8, H.out.close HK.out H0.out hM ?_⟩
          have e1 : (x.after n k q).rs = x.rs ++ [q.v] := if_pos HHIT.out
          have e2 : (x.after n k q).ot = b.take gp.length ++ x.ot.drop gp.length := by
            rw [List.take_of_length_le (by omega), List.drop_of_length_le (by omega), List.append_nil, HBD.out, HO.out]
            exact if_pos HHIT.out
          rw [e1, e2, ← HO.out]
          exact MR.out
    · have b7 : (o.2.ph == 7) = false := by rw [beq_eq_false_iff_ne]; exact h7
      have hnh : ¬ (q.ph = 6 ∧ (pustep x.s (lawQ n) q).2.ph = 7) := fun e => h7 (by rw [HO.out]; exact e.2)
      have HNH := hid hnh
      have h4 : o.2.ph = 4 := by
        rw [HO.out]
        by_cases hc : qT x.s (lawQ n) = q.fr
        · exact absurd (by rw [HO.out, pustep6a h6 hc]) h7
        · rw [pustep6b h6 hc]
      have bd : (o.2.ph == 0) = false := by rw [beq_eq_false_iff_ne, h4]; decide
      clear h6 h7 hnh h4
      go_wp2_with fail
      refine calls_world fun W4 hW4 => ?_
      have m4 : Mem B w0 (runL B p cb qb X n lv' (.slice (some ⟨gv, 0, none⟩) gp.length cv) (.slice (some ⟨gw, 0, none⟩) gp.length cw) (.slice (some ⟨gs, 0, none⟩) gp.length cs) (.slice (some ⟨go, 0, none⟩) gp.length co) (.slice Ar x.rs.length cr) vl gp.length (gp.map Prod.fst) (gp.map fun y => y.2.v) o.1 (x.st.set k (lk x.st k + 1)) x.ot x.rs x.pl gq (gp.set k (g, o.2))) W4 := by rw [hW4]; exact M4.out
      have M5 := hid m4
      clear hW4 x0 x1 x2 x3 x4 x5 x6 x8 f8
      have hq4 := m4.each (9 + k) _ (push_at (k := k) (g := g) (q := o.2) (by simp [(List.getElem?_eq_some_iff.1 HK.out).1]))
      refine (unext_any qb g W4 o.2 hq4).mono ?_
      rintro e w' ⟨rfl, rfl⟩
      clear hq4 M4
      go_wp2_with fail
      go_ret
      exact ⟨_, rfl, lv', _, H.out.close HK.out H0.out hM (by rw [after_rs HNH.out, after_ot HNH.out, ← HO.out]; exact M5.out)⟩
  · have b6 : (q.ph == 6) = false := by rw [beq_eq_false_iff_ne]; exact h6
    have hnh : ¬ (q.ph = 6 ∧ (pustep x.s (lawQ n) q).2.ph = 7) := fun e => h6 e.1
    have HNH := hid hnh
    clear h6 hnh
    by_cases hd : o.2.ph = 0
    · have bd : (o.2.ph == 0) = true := by rw [beq_iff_eq]; exact hd
      have HD := hid hd
      clear hd
      go_wp2_with fail
      refine calls_world fun W4 hW4 => ?_
      have m4 : Mem B w0 (runL B p cb qb X n lv' (.slice (some ⟨gv, 0, none⟩) gp.length cv) (.slice (some ⟨gw, 0, none⟩) gp.length cw) (.slice (some ⟨gs, 0, none⟩) gp.length cs) (.slice (some ⟨go, 0, none⟩) gp.length co) (.slice Ar x.rs.length cr) vl gp.length (gp.map Prod.fst) (gp.map fun y => y.2.v) o.1 (x.st.set k (lk x.st k + 1)) x.ot x.rs x.pl gq (gp.set k (g, o.2))) W4 := by rw [hW4]; exact M4.out
      have M5 := hid m4
      clear hW4 x0 x1 x2 x3 x4 x5 x6 x8 f8
      have x1 : W4.cell? ⟨X, 1, none⟩ = some (.pointer (some ⟨qb, 0, none⟩)) := (m4.each 5 _ rfl).cell 1
      have hq4 := m4.each (9 + k) _ (push_at (k := k) (g := g) (q := o.2) (by simp [(List.getElem?_eq_some_iff.1 HK.out).1]))
      clear m4
      refine (ures_any qb g W4 o.2 hq4).mono ?_
      rintro e w' ⟨rfl, rfl⟩
      rw [if_pos HD.out]
      clear hq4
      by_cases he : o.2.er = 14
      · have be : (o.2.er == 14) = true := by rw [beq_iff_eq]; exact he
        have hfull := HREF.out (by rw [← HO.out]; exact HD.out) (by rw [← HO.out]; exact he)
        have hRn : R = x.rs := by rw [HR.out]; exact after_rs HNH.out
        have bn : (((R.length - x.pl.length : Nat) : Int) != (n : Int)) = false := by rw [bne_eq_false_iff_eq]; rw [hRn]; omega
        clear he hfull hRn
        go_wp2_with fail
        refine (qlen_any B p cb qb lv' o.1 (lawQ n) (pullV gq) W4 (M5.out.each 4 _ rfl) x.pl.length R.length HH.out HT.out hle (by omega)).mono ?_
        rintro e w' ⟨rfl, n5, rfl⟩
        go_wp2_with fail
        go_ret
        exact ⟨_, rfl, lv', _, H.out.close HK.out H0.out hM (by rw [after_rs HNH.out, after_ot HNH.out, ← HO.out]; exact M5.out.drewN n5)⟩
      · have be : (o.2.er == 14) = false := by rw [beq_eq_false_iff_ne]; exact he
        clear he
        go_wp2_with fail
        go_ret
        exact ⟨_, rfl, lv', _, H.out.close HK.out H0.out hM (by rw [after_rs HNH.out, after_ot HNH.out, ← HO.out]; exact M5.out)⟩
    · have bd : (o.2.ph == 0) = false := by rw [beq_eq_false_iff_ne]; exact hd
      clear hd
      go_wp2_with fail
      go_ret
      exact ⟨_, rfl, lv', _, H.out.close HK.out H0.out hM (by rw [after_rs HNH.out, after_ot HNH.out, ← HO.out]; exact M4.out)⟩
end
end Go.Proofs.Ytpkjjlahmjijnaa
