/- Texts XRdR, XMl for XPcs, by trim.py. -/
import Derived.Test.YtjcdknhejcbpiaaGreatPb33
import Derived.Test.YtjcdknhejcbpiaaGreatPb32
import Derived.Test.YtjcdknhejcbpiaaGreatPb27
namespace Go.Proofs.YtjcdknhejcbpiaaGreat
open Go.RowKit
set_option linter.unusedVariables false
set_option linter.unusedSimpArgs false
set_option linter.unusedSectionVars false
set_option maxRecDepth 100000
section
variable {B : Nat} {w0 w : World} {R : List Res} {σ : RS} {y : Ly} {n m : Nat}
set_option maxHeartbeats 4000000 in
theorem visitLine_m (M : Mem B w0 (σ.L B ++ R) w) (O : σ.Ok y n m) (P : ArP σ.ns) {tx : List UInt8} (htx : tx.length ≤ 1000000) {i : Nat} {nn : Int} (D : Dn (fun m => m.l) tx σ.ns i nn (σ.r.rest - 1) σ.r.base) {z : An} (hi : σ.r.at' = hdl i) (hz : σ.ns[i]? = some z) :
    Calls Tryz.prog 72 #[.pointer (some ⟨σ.g, 0, none⟩)] w (VisOut B w0 R σ (fun m => m.l) 1 (fun l n => ((nthP (fun b => b == 10) l n : Nat) : Int) + 1) i z) := by
  have zok := P.ok z (List.mem_of_getElem? hz)
  have HV := hid (visit_m M O hi hz (Nat.le_trans zok.kl (by decide)))
  have HZ := hid zok
  have HM := hid M
  have HBO := hid (D.base_ok htx)
  have HBS := hid (fun h0 => D.bases htx hz h0)
  have HSU := hid (D.sum P hz)
  have HLE := hid (fun h0 => D.leaf P hz h0)
  have lg := (m_rd M).lt
  obtain ⟨⟨hh, s, ks⟩, za, zc⟩ := z
  simp only [Nd.v] at HV
  clear M O P D hi hz htx zok
  go_enter Tryz.func72, Tryz.ntmps72
  go_wp2_with fail
  refine HV.out.mono ?_
  rintro e w2 ⟨a, c, hcl, rfl, hin, hc⟩
  have M2 := hid (HM.out.keep hc)
  have L2 := hid hc.size
  obtain ⟨kn, hkn⟩ : ∃ x, x = ks.length := ⟨_, rfl⟩
  rw [← hkn] at hcl
  rw [← hkn]
  have HKN := hid hkn
  have HIN := hid (show InP Kd.cells 4 w2 (fun b => w.heap.size ≤ b) a kn ks from by rw [hkn]; exact hin)
  have HCL := hid hcl
  clear hin hc HV HM hkn hcl
  by_cases h0 : hh = 0
  · subst h0
    go_wp2_with fail
    refine at_world fun W3 hW3 => ?_
    have M3 := hid (show Mem B w0 (σ.L B ++ R) W3 from by rw [hW3]; exact M2.out.alloc _)
    have X3 := hid (show Blk W3 w2.heap.size 229 #[.int .i64 ((0 : Nat) : Int), .string s, .slice a kn c] from by rw [hW3]; exact Blk.new w2 _ _)
    clear hW3
    obtain ⟨rn, hrn⟩ : ∃ rn : Nat, σ.r.rest = (rn : Int) + 1 := ⟨(σ.r.rest - 1).toNat, by have := HSU.out.1; omega⟩
    have HRN := hid hrn
    have hlt := hid (show rn < cntP (fun b => b == 10) (bs s) from by
      have t := HSU.out.2
      rw [hrn] at t
      have u : (rn : Int) + 1 - 1 < (mOf s).l := t
      simp only [mOf] at u
      omega)
    have hbb := HBO.out
    have hss := hid HZ.out.sz
    have x1 : W3.cell? ⟨w2.heap.size, 1, none⟩ = some (.string s) := X3.out.cell 1
    have a30 : W3.cell? ⟨σ.g, 30, none⟩ = some (.int .i64 ((rn : Int) + 1)) := ((m_rd M3.out).cell 30).trans (by rw [← hrn]; rfl)
    clear hrn
    refine Mix.wp_region_mix (fun _ => True) (fun i => ([0, 0, 0, 0, 0, 0, 2, 0, 0, 0, 0, 0] : List Nat).getD i 0) [0, 1, 2, 3, 4, 5, 6, 7, 8, 9, 10, 11] (by kernel_rfl) (by kernel_rfl) ?_
    repeat (first | (refine Mix.mix_q (by simp only [List.getElem?_toArray, List.getElem?_cons_zero, List.getElem?_cons_succ]; exact rfl) rfl ?_; go_big_quiet_step (fail); refine wpQuiet_nil ?_) | (refine Mix.mix_p (by simp only [List.getElem?_toArray, List.getElem?_cons_zero, List.getElem?_cons_succ]; exact rfl) rfl rfl ?_; go_big_quiet_step (fail); refine wpQuiet_nil ?_) | (refine Mix.mix_s (by simp only [List.getElem?_toArray, List.getElem?_cons_zero, List.getElem?_cons_succ]; exact rfl) rfl rfl ?_; go_big_quiet_step (fail); refine wpQuiet_nil ?_))
    refine Mix.mix_e (by simp only [List.getElem?_toArray, List.getElem?_cons_zero, List.getElem?_cons_succ]; exact rfl) rfl fun W4 hW4 => ?_
    obtain ⟨k4, rfl⟩ := hW4
    go_wp2_with fail
    refine (mline_any s (Nat.le_trans hss.out (by decide)) rn hlt.out _).mono ?_
    rintro e w5 ⟨rfl, rfl⟩
    have hq1 := nthP_lt (fun b => b == 10) (bs s) rn hlt.out
    rw [bs_length] at hq1
    have hq2 := hss.out
    obtain ⟨q, hq⟩ : ∃ q, q = nthP (fun b => b == 10) (bs s) rn := ⟨_, rfl⟩
    have HQ := hid hq
    rw [← hq] at hq1
    rw [← hq]
    have hq3 : q ≤ 16 := by omega
    clear hq hq1 hq2
    go_wp2_with fail
    repeat (first | (refine Mix.mix_q (by simp only [List.getElem?_toArray, List.getElem?_cons_zero, List.getElem?_cons_succ]; exact rfl) rfl ?_; go_big_quiet_step (fail); refine wpQuiet_nil ?_) | (refine Mix.mix_p (by simp only [List.getElem?_toArray, List.getElem?_cons_zero, List.getElem?_cons_succ]; exact rfl) rfl rfl ?_; go_big_quiet_step (fail); refine wpQuiet_nil ?_) | (refine Mix.mix_s (by simp only [List.getElem?_toArray, List.getElem?_cons_zero, List.getElem?_cons_succ]; exact rfl) rfl rfl ?_; go_big_quiet_step (fail); refine wpQuiet_nil ?_))
    intro k6
    refine at_world fun W6 hW6 => ?_
    have M6 := hid (show Mem B w0 (σ.L B ++ R) W6 from by rw [hW6]; exact (M3.out.drewN k4).drewN k6)
    clear hW6 x1 a30
    have a31 : W6.cell? ⟨σ.g, 31, none⟩ = some (.int .i64 σ.r.base.b) := (m_rd M6.out).cell 31
    obtain ⟨bb0, bb1, bb2, bb3⟩ := hbb
    have bb4 : 0 ≤ σ.r.base.b := by omega
    go_wp2_with fail
    refine (rend_any σ.g σ.r { RsV.zero with at' := σ.r.base.b + ((q : Int) + 1) } W6 (m_rd M6.out)).mono ?_
    intro e w7 h7
    have M7 := hid (m_fin M6.out h7 rfl)
    obtain ⟨rfl, _⟩ := h7
    go_wp2_with fail
    go_ret
    refine ⟨rfl, .inr ⟨rfl, ?_⟩⟩
    have eq1 : (σ.r.rest - 1).toNat = rn := by rw [HRN.out]; omega
    simp only [eq1, ← HQ.out]
    exact M7.out
  · have d1 : decide ((hh : Int) > 0) = true := decide_eq_true (by omega)
    have d2 : decide (0 < (hh : Int)) = true := decide_eq_true (by omega)
    have d3 : decide (0 < hh) = true := decide_eq_true (by omega)
    go_wp2_with fail
    refine at_world fun W3 hW3 => ?_
    have M3 := hid (show Mem B w0 (σ.L B ++ R) W3 from by rw [hW3]; exact M2.out.alloc _)
    have X3 := hid (show Blk W3 w2.heap.size 229 #[.int .i64 (hh : Int), .string s, .slice a kn c] from by rw [hW3]; exact Blk.new w2 _ _)
    have C3 := hid (show Ch (fun _ => False) w2 W3 from by rw [hW3]; exact (Ch.refl _ w2).alloc _)
    clear hW3
    obtain ⟨rn, hrn⟩ : ∃ rn, σ.r.rest = rn + 1 := ⟨σ.r.rest - 1, by omega⟩
    have HRN := hid hrn
    have x0 : W3.cell? ⟨w2.heap.size, 0, none⟩ = some (.int .i64 (hh : Int)) := X3.out.cell 0
    have x1 : W3.cell? ⟨w2.heap.size, 1, none⟩ = some (.string s) := X3.out.cell 1
    have x2 : W3.cell? ⟨w2.heap.size, 2, none⟩ = some (.slice a kn c) := X3.out.cell 2
    have a30 : W3.cell? ⟨σ.g, 30, none⟩ = some (.int .i64 (rn + 1)) := ((m_rd M3.out).cell 30).trans (by rw [← hrn]; rfl)
    clear hrn
    refine Mix.wp_region_mix (fun _ => True) (fun i => ([0, 0, 0, 0, 0, 2, 0, 0, 0, 0, 0, 0, 0] : List Nat).getD i 0) [0, 1, 2, 3, 4, 5, 6, 7, 8, 9, 10, 11, 12] (by kernel_rfl) (by kernel_rfl) ?_
    repeat (first | (refine Mix.mix_q (by simp only [List.getElem?_toArray, List.getElem?_cons_zero, List.getElem?_cons_succ]; exact rfl) rfl ?_; go_big_quiet_step (fail); refine wpQuiet_nil ?_) | (refine Mix.mix_p (by simp only [List.getElem?_toArray, List.getElem?_cons_zero, List.getElem?_cons_succ]; exact rfl) rfl rfl ?_; go_big_quiet_step (fail); refine wpQuiet_nil ?_) | (refine Mix.mix_s (by simp only [List.getElem?_toArray, List.getElem?_cons_zero, List.getElem?_cons_succ]; exact rfl) rfl rfl ?_; go_big_quiet_step (fail); refine wpQuiet_nil ?_))
    refine Mix.mix_e (by simp only [List.getElem?_toArray, List.getElem?_cons_zero, List.getElem?_cons_succ]; exact rfl) rfl fun W4 hW4 => ?_
    obtain ⟨k4, rfl⟩ := hW4
    go_wp2_with fail
    refine calls_world fun W5 hW5 => ?_
    have C5 := hid (show Ch (fun _ => False) W3 W5 from by rw [hW5]; exact (Ch.refl _ W3).drewN k4)
    clear hW5 x0 x1 x2 a30
    have HI5 := hid (HIN.out.keep (S' := fun b => w.heap.size ≤ b) (C3.out.trans C5.out (fun _ _ h => h)) (fun _ _ _ h => h) (fun _ _ h => h))
    refine (nline_any (fun b => w.heap.size ≤ b) ⟨hh, s, ks⟩ a kn c W5 HZ.out h0 HI5.out rn (by have t := HSU.out.1; rw [HRN.out] at t; omega) (by have t := HSU.out.2; rw [HRN.out, Int.add_sub_cancel] at t; exact t)).mono ?_
    rintro e w6 ⟨ci, q, rfl, hch, hci, hq, hc⟩
    have HCH := hid hch
    have C6 := hid (C5.out.trans hc (fun _ _ h => h))
    have HI6 := hid (HI5.out.keep (S' := fun b => w.heap.size ≤ b) hc (fun _ _ _ h => h) (fun _ _ h => h))
    clear hch hc
    go_wp2_with fail
    repeat (first | (refine Mix.mix_q (by simp only [List.getElem?_toArray, List.getElem?_cons_zero, List.getElem?_cons_succ]; exact rfl) rfl ?_; go_big_quiet_step (fail); refine wpQuiet_nil ?_) | (refine Mix.mix_p (by simp only [List.getElem?_toArray, List.getElem?_cons_zero, List.getElem?_cons_succ]; exact rfl) rfl rfl ?_; go_big_quiet_step (fail); refine wpQuiet_nil ?_) | (refine Mix.mix_s (by simp only [List.getElem?_toArray, List.getElem?_cons_zero, List.getElem?_cons_succ]; exact rfl) rfl rfl ?_; go_big_quiet_step (fail); refine wpQuiet_nil ?_))
    intro k7
    refine at_world fun W7 hW7 => ?_
    have C7 := hid (show Ch (fun _ => False) w6 W7 from by rw [hW7]; exact (Ch.refl _ w6).drewN k7)
    clear hW7
    have C37 := hid (C6.out.trans C7.out (fun _ _ h => h))
    have M7 := hid (M3.out.keep C37.out)
    have X7 := hid (C37.out.blk X3.out id)
    have HI7 := hid (HI6.out.keep (S' := fun b => w.heap.size ≤ b) C7.out (fun _ _ _ h => h) (fun _ _ h => h))
    have x0 : W7.cell? ⟨w2.heap.size, 0, none⟩ = some (.int .i64 (hh : Int)) := X7.out.cell 0
    have x1 : W7.cell? ⟨w2.heap.size, 1, none⟩ = some (.string s) := X7.out.cell 1
    have x2 : W7.cell? ⟨w2.heap.size, 2, none⟩ = some (.slice a kn c) := X7.out.cell 2
    have hkk := HKN.out
    have hk4 := hid HZ.out.kl
    obtain ⟨k, hk⟩ : ∃ k, ks[ci]? = some k := ⟨_, List.getElem?_eq_getElem (by omega)⟩
    have HK := hid hk
    clear hk hkk
    go_wp2_with fail
    refine (down_any σ.g σ.r (fun b => w.heap.size ≤ b) (by omega) (hh : Int) s ks a kn c ci HCL.out (q + 1) k HK.out (by have h4 : ks.length ≤ 4 := hk4.out; have := HKN.out; omega) HZ.out.km (fun j hj => HBS.out h0 j (show j < ks.length by have := HKN.out; omega)) W7 (m_rd M7.out) HI7.out).mono ?_
    intro e w8 h8
    have M8 := hid (m_set M7.out h8 rfl rfl)
    obtain ⟨rfl, _⟩ := h8
    go_wp2_with fail
    go_ret
    refine ⟨rfl, .inl ⟨h0, ci, k, q, HK.out, ?_, ?_⟩⟩
    · rw [HRN.out, Int.add_sub_cancel]; exact HCH.out
    · exact M8.out
end
end Go.Proofs.YtjcdknhejcbpiaaGreat
namespace Go.Proofs.YtjcdknhejcbpiaaGreat
open Go.RowKit
set_option linter.unusedVariables false
set_option linter.unusedSimpArgs false
set_option linter.unusedSectionVars false
section
variable {B : Nat} {w0 w w' : World} {A R : List Res} {r s : Res}
theorem Mem.snoc (h : Mem B w0 (A ++ R) w) (r : Res) (c : Ch (fun _ => False) w w') (h' : r.holds w') (hf : ∀ k, r.foot k → w.heap.size ≤ k) : Mem B w0 (A ++ (R ++ [r])) w' := by
  rw [← List.append_assoc]
  exact h.add r c h' hf
theorem Mem.lastB (h : Mem B w0 (A ++ (R ++ [r])) w) : r.holds w := by
  rw [← List.append_assoc] at h
  exact h.each (A ++ R).length r (by simp)
theorem Mem.drop1 (h : Mem B w0 (A ++ (R ++ [r])) w) : Mem B w0 (A ++ R) w := by
  rw [← List.append_assoc] at h
  exact mem_drop h
theorem Mem.setLast {fp : Nat → Prop} (h : Mem B w0 (A ++ (R ++ [r])) w) (r' : Res) (c : Ch fp w w') (hfp : ∀ k, k < w.heap.size → fp k → r.foot k) (h' : r'.holds w') (hf : ∀ k, r'.foot k → r.foot k ∨ w.heap.size ≤ k) : Mem B w0 (A ++ (R ++ [r'])) w' := by
  rw [← List.append_assoc] at h ⊢
  have t := h.upd (i := (A ++ R).length) r' (by simp) c hfp h' hf
  rw [List.set_append_right _ _ (Nat.le_refl _), Nat.sub_self] at t
  exact t
/-- A row at the end grows. -/
theorem Mem.appLast {e size n n' : Nat} {v v' : Value} {xs xs' : List Value} (h : Mem B w0 (A ++ (R ++ [rowR B e size n v xs])) w) (hr : w'.ownsRow B e size v' n' xs') (hg : w.grownBy w' v.ownBlock) (hf : Fresh w v v') : Mem B w0 (A ++ (R ++ [rowR B e size n' v' xs'])) w' :=
  h.setLast _ ((Ch.refl (fun k => v.ownBlock = some k) w).grown hg (fun k hk _ => hk)) (fun _ _ e => e) hr (fun k hk => by
    rcases hf with e | e
    · exact .inl (by show v.ownBlock = some k; rw [← e]; exact hk)
    · exact .inr (e k hk))
theorem Mem.drop1c {b : Res} (h : Mem B w0 (A ++ (b :: (R ++ [r]))) w) : Mem B w0 (A ++ (b :: R)) w := Mem.drop1 (R := b :: R) h
theorem Mem.lastBc {b : Res} (h : Mem B w0 (A ++ (b :: (R ++ [r]))) w) : r.holds w := Mem.lastB (R := b :: R) h
theorem Mem.dropMid {L L2 : List Res} (h : Mem B w0 (L ++ (r :: L2)) w) : Mem B w0 (L ++ L2) w := by
  have get : ∀ (i : Nat) (s : Res), (L ++ L2)[i]? = some s → (L ++ (r :: L2))[if i < L.length then i else i + 1]? = some s := fun i s hs => by
    by_cases hi : i < L.length
    · rw [if_pos hi, List.getElem?_append_left hi]
      rwa [List.getElem?_append_left hi] at hs
    · rw [if_neg hi, List.getElem?_append_right (by omega), show i + 1 - L.length = (i - L.length) + 1 by omega, List.getElem?_cons_succ]
      rwa [List.getElem?_append_right (by omega)] at hs
  refine ⟨fun i s hs => h.each _ s (get i s hs), fun i j s s' hs hs' hne k hk => h.apart _ _ s s' (get i s hs) (get j s' hs') (fun e => hne ?_) k hk, fun i s hs => h.low _ s (get i s hs), h.bel, h.bz⟩
  split at e <;> split at e <;> omega
/-- The last but one goes. -/
theorem Mem.drop2c {b s : Res} (h : Mem B w0 (A ++ (b :: ((R ++ [r]) ++ [s]))) w) : Mem B w0 (A ++ (b :: (R ++ [s]))) w := by
  have h' : Mem B w0 ((A ++ (b :: R)) ++ (r :: [s])) w := by
    rw [List.append_assoc] at h ⊢
    exact h
  have := h'.dropMid
  rw [List.append_assoc] at this
  exact this
theorem Mem.last2c {b s : Res} (h : Mem B w0 (A ++ (b :: ((R ++ [r]) ++ [s]))) w) : r.holds w := h.drop1c.lastBc
theorem Mem.put2c {b s : Res} {g : Nat} {t : TypeId} {cs : Array Value} (h : Mem B w0 (A ++ (b :: ((R ++ [blkR g t cs]) ++ [s]))) w) (o : Nat) (u : Value) : Mem B w0 (A ++ (b :: ((R ++ [blkR g t (cs.setIfInBounds o u)]) ++ [s]))) (w.setCell ⟨g, o, none⟩ u) := by
  have e : ∀ x : Res, A ++ (b :: ((R ++ [x]) ++ [s])) = (A ++ (b :: R)) ++ (x :: [s]) := fun x => by simp
  rw [e] at h ⊢
  have hi : ((A ++ (b :: R)) ++ [blkR g t cs, s])[(A ++ (b :: R)).length]? = some (blkR g t cs) := by rw [List.getElem?_append_right (Nat.le_refl _), Nat.sub_self]; rfl
  have t := h.put hi o u
  rw [List.set_append_right _ _ (Nat.le_refl _), Nat.sub_self] at t
  exact t
theorem Mem.appLastc {e size n n' : Nat} {v v' : Value} {xs xs' : List Value} {b : Res} (h : Mem B w0 (A ++ (b :: (R ++ [rowR B e size n v xs]))) w) (hr : w'.ownsRow B e size v' n' xs') (hg : w.grownBy w' v.ownBlock) (hf : Fresh w v v') : Mem B w0 (A ++ (b :: (R ++ [rowR B e size n' v' xs']))) w' := Mem.appLast (R := b :: R) h hr hg hf
end
end Go.Proofs.YtjcdknhejcbpiaaGreat
