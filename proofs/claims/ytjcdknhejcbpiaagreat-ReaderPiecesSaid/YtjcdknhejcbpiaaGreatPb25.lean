/- Texts XRdE for XPcs, by trim.py. -/
import Derived.Test.YtjcdknhejcbpiaaGreatPb24
namespace Go.Proofs.YtjcdknhejcbpiaaGreat
open Go.RowKit
set_option linter.unusedVariables false
set_option linter.unusedSimpArgs false
set_option linter.unusedSectionVars false
set_option maxRecDepth 100000
section
variable {B : Nat} {w0 w : World} {R : List Res} {σ : RS} {y : Ly} {n m : Nat}
/-- The bank alone changes. -/
theorem m_bank (M : Mem B w0 (σ.L B ++ R) w) {w' : World} {s' : BS} (h : BStep B w w' σ.p σ.cb σ.lv s') : ∃ lv', Mem B w0 (RS.L B { σ with s := s', lv := lv' } ++ R) w' := by
  obtain ⟨lv', hb, hc, hf⟩ := h
  refine ⟨lv', ?_⟩
  have t := M.upd (i := 3) (bankR B σ.p σ.cb lv' s'.vs s'.lg) rfl hc (fun _ _ e => e) hb (fun k e => by
    rcases e with e | e | e
    · exact .inl (.inl e)
    · exact .inl (.inr (.inl e))
    · rcases hf with hf | hf
      · rw [hf] at e; exact .inl (.inr (.inr e))
      · exact .inr (hf k e))
  exact t
theorem m_put (M : Mem B w0 (σ.L B ++ R) w) (o : Nat) (u : Value) (r' : Rd) (e : σ.r.cells.setIfInBounds o u = r'.cells) (hs : r'.sb = σ.r.sb) (ht : r'.tx = σ.r.tx) : Mem B w0 (RS.L B { σ with r := r' } ++ R) (w.setCell ⟨σ.g, o, none⟩ u) :=
  m_set M (v := .tuple #[]) (e := .returned (.tuple #[])) ⟨rfl, Blk.as ((m_rd M).put o u) e, (Ch.refl (fun b => b = σ.g) w).set (fun _ => rfl) u⟩ hs ht
/-- An operation has ended. -/
theorem m_fin (M : Mem B w0 (σ.L B ++ R) w) {w' : World} {r0 : Rd} {x : RsV} {v : Value} {e : Ending} (h : RdSet σ.g (r0.fin x) w v e w') (hs : r0.sb = σ.r.sb) : Mem B w0 (RS.L B { σ with r := r0.fin x, tx := [] } ++ R) w' := by
  have t := M.upd (i := 0) (blkR σ.g 111 (r0.fin x).cells) rfl h.2.2 (fun _ _ e => e) h.2.1 (fun _ e => .inl e)
  have u := t.upd (i := 8) (rowR B 5 1 0 (.slice none 0 0) []) rfl (Ch.refl (fun _ => False) w') (fun _ _ e => e.elim) (World.ownsRow_nil _ _ _ _) (fun k e => by cases e)
  have e : RS.L B { σ with r := r0.fin x, tx := [] } ++ R = ((σ.L B ++ R).set 0 (blkR σ.g 111 (r0.fin x).cells)).set 8 (rowR B 5 1 0 (.slice none 0 0) []) := by
    simp only [RS.L, Rd.fin, hs]; rfl
  rw [e]
  exact u
/-- A pin is begun. -/
theorem m_pin (M : Mem B w0 (σ.L B ++ R) w) {w' : World} {k g : Nat} {q : Pn} (hk : σ.ps[k]? = some none) (h1 : Blk w' g 256 (pnCells σ.eb g q)) (h2 : Blk w' σ.pb 109 (pinsA ((σ.ps.map (Option.map Prod.fst)).set k (some g)))) (hc : Ch (fun b => b = σ.pb) w w') (hg : w.heap.size ≤ g) :
    Mem B w0 (RS.L B { σ with ps := σ.ps.set k (some (g, q)) } ++ R) w' := by
  have hP := m_pn M
  have hne : ∀ (j : Nat) (y : Nat × Pn), σ.ps[j]? = some (some y) → y.1 ≠ g ∧ y.1 ≠ σ.pb := fun j y hj => ⟨by have := (hP.s j y hj).lt; omega, (hP.s j y hj).ne hP.b (by decide)⟩
  have t := pins_set (o := some (g, q)) hP hc (k := k) h2 (fun x hx => by
    injection hx with hx
    subst hx
    exact ⟨h1, fun j y _ hj => (hne j y hj).1⟩) (fun j y _ hj => (hne j y hj).2)
  have u := M.upd (i := 5) (pinsR σ.eb σ.pb (σ.ps.set k (some (g, q)))) rfl hc (fun _ _ e => .inl e) t (fun i e => by
    rcases e with e | ⟨j, x, hj, e⟩
    · exact .inl (.inl e)
    · rcases sset hj with ⟨_, e2⟩ | ⟨_, hj⟩
      · injection e2 with e2
        subst e2
        exact .inr (by rw [e]; exact hg)
      · exact .inl (.inr ⟨j, x, hj, e⟩))
  exact u
end
theorem free1_spec : ∀ (l : List (Option Nat)) (j : Nat), free1 l j = -1 ∨ ∃ i, free1 l j = ((j + i : Nat) : Int) ∧ l[i]? = some none
  | [], _ => .inl rfl
  | none :: l, j => .inr ⟨0, rfl, rfl⟩
  | some g :: l, j => by
    rcases free1_spec l (j + 1) with h | ⟨i, h, hi⟩
    · exact .inl h
    · exact .inr ⟨i + 1, by rw [show j + (i + 1) = j + 1 + i by omega]; exact h, by simpa using hi⟩
theorem sptr_none {l : List (Option Snp)} {k : Nat} (h : (l.map sptr)[k]? = some none) : l[k]? = some none := by
  rw [List.getElem?_map] at h
  cases hl : l[k]? with
  | none => rw [hl] at h; cases h
  | some o =>
    rw [hl] at h
    cases o with
    | none => rfl
    | some s => simp [sptr] at h
def loadF (g : Nat) : Value := .func (.func 101) #[.pointer (some ⟨g, 0, none⟩)] #[]
def rootF (g : Nat) : Value := .func (.func 128) #[.pointer (some ⟨g, 0, none⟩)] #[]
/-- What the first step of an acquisition leaves. -/
def ClOut (B : Nat) (w0 : World) (R : List Res) (σ : RS) (m : Nat) (e : Ending) (w' : World) : Prop := e = .returned (.int .u64 0) ∧ ∃ lv',
  (lk σ.s.vs 0 ≠ 0 ∧ Mem B w0 (RS.L B { σ with s := σ.s.load σ.r.cl 0, lv := lv', r := Rd.fin { σ.r with slot := free1 (σ.sl.map sptr) 0 } { RsV.zero with er := 13 }, tx := [] } ++ R) w') ∨
  (lk σ.s.vs 0 = 0 ∧ free1 (σ.sl.map sptr) 0 < 0 ∧ Mem B w0 (RS.L B { σ with s := σ.s.load σ.r.cl 0, lv := lv', r := Rd.fin { σ.r with slot := free1 (σ.sl.map sptr) 0 } { RsV.zero with er := 15 }, tx := [] } ++ R) w') ∨
  (lk σ.s.vs 0 = 0 ∧ ∃ k pg : Nat, free1 (σ.sl.map sptr) 0 = k ∧ Mem B w0 (RS.L B { σ with s := σ.s.load σ.r.cl 0, lv := lv', ps := σ.ps.set (m + k) (some (pg, ⟨σ.r.cl, m + k, 0, 9⟩)), r := { σ.r with slot := (k : Int), pin := .pointer (some ⟨pg, 0, none⟩), ph := 9, dv := loadF σ.g } } ++ R) w')
set_option maxHeartbeats 4000000 in
theorem closed_m {B : Nat} {w0 w : World} {R : List Res} {σ : RS} {y : Ly} {n m : Nat} (M : Mem B w0 (σ.L B ++ R) w) (O : σ.Ok y n m) (hfree : ∀ k, k < n → (σ.sl[k]? = some none ↔ σ.ps[m + k]? = some none)) :
    Calls Tryz.prog 64 #[.pointer (some ⟨σ.g, 0, none⟩)] w (ClOut B w0 R σ m) := by
  have HM := hid M
  have HO := hid O
  have HF := hid hfree
  have HS := m_st M
  have hst := hid HS
  have hg := m_rd M
  have a0 : w.cell? ⟨σ.g, 0, none⟩ = some (.pointer (some ⟨σ.r.sb, 0, none⟩)) := hg.cell 0
  have a1 : w.cell? ⟨σ.g, 1, none⟩ = some (.int .i64 σ.r.cl) := hg.cell 1
  have lg := hg.lt
  clear M O hfree HS hg
  go_enter Tryz.func64, Tryz.ntmps64
  go_wp2_with fail
  obtain ⟨S, hS⟩ : ∃ S : Nat → Prop, ∀ k, S k ↔ k = σ.g := ⟨_, fun _ => Iff.rfl⟩
  have hSp : Mix.Has S σ.g := (hS _).2 rfl
  have HSS := hid hS
  clear hS
  refine Mix.wp_region_mix S (fun i => ([0, 0, 0, 0, 0, 1, 1, 1, 4, 0, 0, 0, 0, 3, 0, 2, 0, 0, 0, 0, 0] : List Nat).getD i 0) [0, 1, 2, 3, 4, 5, 6, 7, 8, 9, 10, 11, 12, 13, 14, 15, 16, 17, 18, 19, 20] (by kernel_rfl) (by kernel_rfl) ?_
  repeat (first | (refine Mix.mix_q (by simp only [List.getElem?_toArray, List.getElem?_cons_zero, List.getElem?_cons_succ]; exact rfl) rfl ?_; go_big_quiet_step (fail); refine wpQuiet_nil ?_) | (refine Mix.mix_p (by simp only [List.getElem?_toArray, List.getElem?_cons_zero, List.getElem?_cons_succ]; exact rfl) rfl rfl ?_; go_big_quiet_step (fail); refine wpQuiet_nil ?_) | (refine Mix.mix_s (by simp only [List.getElem?_toArray, List.getElem?_cons_zero, List.getElem?_cons_succ]; exact rfl) rfl rfl ?_; go_big_quiet_step (fail); refine wpQuiet_nil ?_))
  (refine Mix.mix_q (by simp only [List.getElem?_toArray, List.getElem?_cons_zero, List.getElem?_cons_succ]; exact rfl) rfl ?_; go_big_quiet_step ((go_at_call 26; exact sbank_q w hst.out HO.out.stf _)); refine wpQuiet_nil ?_)
  repeat (first | (refine Mix.mix_q (by simp only [List.getElem?_toArray, List.getElem?_cons_zero, List.getElem?_cons_succ]; exact rfl) rfl ?_; go_big_quiet_step (fail); refine wpQuiet_nil ?_) | (refine Mix.mix_p (by simp only [List.getElem?_toArray, List.getElem?_cons_zero, List.getElem?_cons_succ]; exact rfl) rfl rfl ?_; go_big_quiet_step (fail); refine wpQuiet_nil ?_) | (refine Mix.mix_s (by simp only [List.getElem?_toArray, List.getElem?_cons_zero, List.getElem?_cons_succ]; exact rfl) rfl rfl ?_; go_big_quiet_step (fail); refine wpQuiet_nil ?_))
  refine Mix.mix_a (by simp only [List.getElem?_toArray, List.getElem?_cons_zero, List.getElem?_cons_succ]; exact rfl) rfl fun W2 hW2 => ?_
  obtain ⟨k2, rfl⟩ := hW2
  go_wp2_with fail
  refine (slayout_any (w.drewN k2) (hst.out.drewN k2) HO.out.stf).mono ?_
  rintro e w3 ⟨rfl, hc⟩
  have c3 : Ch (fun _ => False) w w3 := hc.ofDrewN
  have M3 := hid (HM.out.keep c3)
  have hkeep : Mix.Keep S w w3 := fun k hk => by rw [(HSS.out k).1 hk]; exact c3.block _ lg id
  clear hc c3
  simp only [Ly.arr]
  go_wp2_with fail
  refine ⟨hkeep, ?_⟩
  clear hkeep
  have hfd : ∀ W : World, (Instr.field 83 (.agg #[.int .i64 y.l0, .int .i64 y.l1, .int .i64 y.l2, .int .i64 y.l3, .int .i64 y.l4, .int .i64 y.l5, .int .i64 y.l6, .int .i64 y.l7, .int .i64 y.l8, .int .i64 y.l9]) 0).run Tryz.prog W = .ok (.int .i64 y.l0) W := fun W => by kernel_rfl
  repeat (first | (refine Mix.mix_q (by simp only [List.getElem?_toArray, List.getElem?_cons_zero, List.getElem?_cons_succ]; exact rfl) rfl ?_; go_big_quiet_step (fail); refine wpQuiet_nil ?_) | (refine Mix.mix_p (by simp only [List.getElem?_toArray, List.getElem?_cons_zero, List.getElem?_cons_succ]; exact rfl) rfl rfl ?_; go_big_quiet_step (fail); refine wpQuiet_nil ?_) | (refine Mix.mix_s (by simp only [List.getElem?_toArray, List.getElem?_cons_zero, List.getElem?_cons_succ]; exact rfl) rfl rfl ?_; go_big_quiet_step (fail); refine wpQuiet_nil ?_))
  refine Mix.mix_e (by simp only [List.getElem?_toArray, List.getElem?_cons_zero, List.getElem?_cons_succ]; exact rfl) rfl fun W4 hW4 => ?_
  obtain ⟨k4, rfl⟩ := hW4
  go_wp2_with fail
  rw [HO.out.y0]
  refine (load_ok B σ.p σ.cb σ.lv σ.s σ.r.cl 0 (w3.drewN k4) (m_bk (M3.out.drewN k4)) ⟨HO.out.cl.1, HO.out.cl.2, by decide, by have := HO.out.vs; omega⟩ (by have := HO.out.lg; omega) (M3.out.drewN k4).bz).mono ?_
  rintro e w5 ⟨rfl, hbs⟩
  obtain ⟨lv', hM5⟩ := m_bank (M3.out.drewN k4) hbs
  have M5 := hid hM5
  obtain ⟨v, hv⟩ : ∃ v, v = lk σ.s.vs (0 : Int).toNat := ⟨_, rfl⟩
  rw [← hv]
  have HV := hid (show lk σ.s.vs 0 = v from hv.symm)
  clear hbs hM5 hv a0 a1
  go_wp2_with fail
  repeat (first | (refine Mix.mix_q (by simp only [List.getElem?_toArray, List.getElem?_cons_zero, List.getElem?_cons_succ]; exact rfl) rfl ?_; go_big_quiet_step (fail); refine wpQuiet_nil ?_) | (refine Mix.mix_p (by simp only [List.getElem?_toArray, List.getElem?_cons_zero, List.getElem?_cons_succ]; exact rfl) rfl rfl ?_; go_big_quiet_step (fail); refine wpQuiet_nil ?_) | (refine Mix.mix_s (by simp only [List.getElem?_toArray, List.getElem?_cons_zero, List.getElem?_cons_succ]; exact rfl) rfl rfl ?_; go_big_quiet_step (fail); refine wpQuiet_nil ?_))
  intro k5
  refine at_world fun W6 hW6 => ?_
  have M6 := hid (show Mem B w0 (RS.L B { σ with s := σ.s.load σ.r.cl 0, lv := lv' } ++ R) W6 from by rw [hW6]; exact M5.out.drewN k5)
  clear hW6
  have a2 : W6.cell? ⟨σ.g, 2, none⟩ = some (.slice (some ⟨σ.lb, 0, none⟩) n n) := ((m_rd M6.out).cell 2).trans (by rw [← HO.out.sl]; rfl)
  have c27 : W6.cell? ⟨σ.g, 27, none⟩ = some (.int .i64 σ.r.slot) := (m_rd M6.out).cell 27
  have f27 := (m_rd M6.out).free 27
  go_wp2_with fail
  refine (index_any σ.lb n (σ.sl.map sptr) W6 (m_sl M6.out).b (by rw [List.length_map]; exact HO.out.nl) (by have := HO.out.n8; omega)).mono ?_
  rintro e w' ⟨rfl, rfl⟩
  obtain ⟨fr, hfr⟩ : ∃ x, x = free1 (σ.sl.map sptr) 0 := ⟨_, rfl⟩
  rw [← hfr]
  have HFR := hid hfr
  clear hfr
  by_cases hv0 : v = 0
  · subst hv0
    by_cases hs0 : fr < 0
    · have d1 : decide (fr < 0) = true := decide_eq_true hs0
      go_wp2_with fail
      refine calls_world fun W7 hW7 => ?_
      have M7 := hid (show Mem B w0 (RS.L B { σ with s := σ.s.load σ.r.cl 0, lv := lv', r := { σ.r with slot := fr } } ++ R) W7 from by rw [hW7]; exact m_put M6.out 27 (.int .i64 fr) { σ.r with slot := fr } rfl rfl rfl)
      clear hW7 a2 c27 f27
      refine (rend_any σ.g { σ.r with slot := fr } { RsV.zero with er := 15 } W7 (m_rd M7.out)).mono ?_
      intro e w8 hset
      have M8 := hid (m_fin M7.out hset rfl)
      obtain ⟨rfl, _, _⟩ := hset
      go_wp2_with fail
      go_ret
      exact ⟨rfl, lv', .inr (.inl ⟨HV.out, by rw [← HFR.out]; exact hs0, by rw [← HFR.out]; exact M8.out⟩)⟩
    · obtain ⟨k, hk1, hk2⟩ : ∃ k : Nat, fr = k ∧ σ.sl[k]? = some none := by
        rcases free1_spec (σ.sl.map sptr) 0 with h | ⟨i, h, hi⟩
        · have := HFR.out; omega
        · exact ⟨i, by rw [HFR.out, h, Nat.zero_add], sptr_none hi⟩
      subst hk1
      have hkn : k < n := by rw [← HO.out.nl]; exact (List.getElem?_eq_some_iff.1 hk2).1
      have hps := hid ((HF.out k hkn).1 hk2)
      have HK2 := hid hk2
      have hn8 := HO.out.n8
      have hmn := HO.out.mn
      have hf64 := HO.out.ed.n
      have d1 : decide ((k : Int) < 0) = false := decide_eq_false hs0
      clear hs0 hk2
      go_wp2_with fail
      refine at_world fun W7 hW7 => ?_
      have M7 := hid (show Mem B w0 (RS.L B { σ with s := σ.s.load σ.r.cl 0, lv := lv', r := { σ.r with slot := (k : Int) } } ++ R) W7 from by rw [hW7]; exact m_put M6.out 27 (.int .i64 (k : Int)) { σ.r with slot := (k : Int) } rfl rfl rfl)
      clear hW7 a2 c27 f27
      have a0 : W7.cell? ⟨σ.g, 0, none⟩ = some (.pointer (some ⟨σ.r.sb, 0, none⟩)) := (m_rd M7.out).cell 0
      have a1 : W7.cell? ⟨σ.g, 1, none⟩ = some (.int .i64 σ.r.cl) := (m_rd M7.out).cell 1
      have a27 : W7.cell? ⟨σ.g, 27, none⟩ = some (.int .i64 (k : Int)) := (m_rd M7.out).cell 27
      refine Mix.wp_region_mix (fun _ => True) (fun i => ([1, 0, 0, 0, 0, 0, 0, 0, 0, 0, 0, 0, 0, 0, 0, 0, 2, 0, 0, 1, 0, 0, 2] : List Nat).getD i 0) [0, 1, 2, 3, 4, 5, 6, 7, 8, 9, 10, 11, 12, 13, 14, 15, 16, 17, 18, 19, 20, 21, 22] (by kernel_rfl) (by kernel_rfl) ?_
      repeat (first | (refine Mix.mix_q (by simp only [List.getElem?_toArray, List.getElem?_cons_zero, List.getElem?_cons_succ]; exact rfl) rfl ?_; go_big_quiet_step (fail); refine wpQuiet_nil ?_) | (refine Mix.mix_p (by simp only [List.getElem?_toArray, List.getElem?_cons_zero, List.getElem?_cons_succ]; exact rfl) rfl rfl ?_; go_big_quiet_step (fail); refine wpQuiet_nil ?_) | (refine Mix.mix_s (by simp only [List.getElem?_toArray, List.getElem?_cons_zero, List.getElem?_cons_succ]; exact rfl) rfl rfl ?_; go_big_quiet_step (fail); refine wpQuiet_nil ?_))
      (refine Mix.mix_q (by simp only [List.getElem?_toArray, List.getElem?_cons_zero, List.getElem?_cons_succ]; exact rfl) rfl ?_; go_big_quiet_step ((go_at_call 97; exact sepoch_q W7 (m_st M7.out) HO.out.stf _)); refine wpQuiet_nil ?_)
      repeat (first | (refine Mix.mix_q (by simp only [List.getElem?_toArray, List.getElem?_cons_zero, List.getElem?_cons_succ]; exact rfl) rfl ?_; go_big_quiet_step (fail); refine wpQuiet_nil ?_) | (refine Mix.mix_p (by simp only [List.getElem?_toArray, List.getElem?_cons_zero, List.getElem?_cons_succ]; exact rfl) rfl rfl ?_; go_big_quiet_step (fail); refine wpQuiet_nil ?_) | (refine Mix.mix_s (by simp only [List.getElem?_toArray, List.getElem?_cons_zero, List.getElem?_cons_succ]; exact rfl) rfl rfl ?_; go_big_quiet_step (fail); refine wpQuiet_nil ?_))
      (refine Mix.mix_q (by simp only [List.getElem?_toArray, List.getElem?_cons_zero, List.getElem?_cons_succ]; exact rfl) rfl ?_; go_big_quiet_step ((go_at_call 99; exact held_q σ.g σ.lb n m { σ.r with slot := (k : Int) } k W7 (m_rd M7.out) HO.out.sl HO.out.hm (by omega) (by omega) _)); refine wpQuiet_nil ?_)
      repeat (first | (refine Mix.mix_q (by simp only [List.getElem?_toArray, List.getElem?_cons_zero, List.getElem?_cons_succ]; exact rfl) rfl ?_; go_big_quiet_step (fail); refine wpQuiet_nil ?_) | (refine Mix.mix_p (by simp only [List.getElem?_toArray, List.getElem?_cons_zero, List.getElem?_cons_succ]; exact rfl) rfl rfl ?_; go_big_quiet_step (fail); refine wpQuiet_nil ?_) | (refine Mix.mix_s (by simp only [List.getElem?_toArray, List.getElem?_cons_zero, List.getElem?_cons_succ]; exact rfl) rfl rfl ?_; go_big_quiet_step (fail); refine wpQuiet_nil ?_))
      refine Mix.mix_e (by simp only [List.getElem?_toArray, List.getElem?_cons_zero, List.getElem?_cons_succ]; exact rfl) rfl fun W8 hW8 => ?_
      obtain ⟨k8, rfl⟩ := hW8
      go_wp2_with fail
      have hck : ckerr σ.f σ.r.cl ((m + k : Nat) : Int) = 0 := by
        unfold ckerr
        rw [if_neg (by have := HO.out.cl; omega), if_neg (by omega)]
      have M8 := hid (M7.out.drewN k8)
      refine (pin_ok B σ.p σ.cb σ.eb σ.pb lv' (σ.s.load σ.r.cl 0) σ.f σ.sc (σ.ps.map (Option.map Prod.fst)) (W7.drewN k8) (m_ep M8.out (HO.out.ed.of rfl)) (m_pn M8.out).b (by rw [List.length_map]; exact HO.out.pl) σ.r.cl (m + k) hck (by rw [List.getElem?_map, hps.out]; rfl)).mono ?_
      rintro e w9 ⟨pg, rfl, h1, h2, hc, hg⟩
      have M9 := hid (m_pin M8.out (k := m + k) hps.out h1 h2 hc hg)
      clear h1 h2 hc hg hck a0 a1 a27
      have c28 : w9.cell? ⟨σ.g, 28, none⟩ = some σ.r.pin := (m_rd M9.out).cell 28
      have f28 := (m_rd M9.out).free 28
      go_wp2_with fail
      repeat (first | (refine Mix.mix_q (by simp only [List.getElem?_toArray, List.getElem?_cons_zero, List.getElem?_cons_succ]; exact rfl) rfl ?_; go_big_quiet_step (fail); refine wpQuiet_nil ?_) | (refine Mix.mix_p (by simp only [List.getElem?_toArray, List.getElem?_cons_zero, List.getElem?_cons_succ]; exact rfl) rfl rfl ?_; go_big_quiet_step (fail); refine wpQuiet_nil ?_) | (refine Mix.mix_s (by simp only [List.getElem?_toArray, List.getElem?_cons_zero, List.getElem?_cons_succ]; exact rfl) rfl rfl ?_; go_big_quiet_step (fail); refine wpQuiet_nil ?_))
      refine Mix.mix_e (by simp only [List.getElem?_toArray, List.getElem?_cons_zero, List.getElem?_cons_succ]; exact rfl) rfl fun W10 hW10 => ?_
      obtain ⟨k10, rfl⟩ := hW10
      go_wp2_with fail
      intro k11
      refine at_world fun W11 hW11 => ?_
      have M11 := hid (show Mem B w0 (RS.L B { σ with s := σ.s.load σ.r.cl 0, lv := lv', ps := σ.ps.set (m + k) (some (pg, ⟨σ.r.cl, m + k, 0, 9⟩)), r := { σ.r with slot := (k : Int), pin := .pointer (some ⟨pg, 0, none⟩) } } ++ R) W11 from by rw [hW11]; exact (m_put (M9.out.drewN k10) 28 (.pointer (some ⟨pg, 0, none⟩)) { σ.r with slot := (k : Int), pin := .pointer (some ⟨pg, 0, none⟩) } rfl rfl rfl).drewN k11)
      clear hW11 c28 f28
      have a28 : W11.cell? ⟨σ.g, 28, none⟩ = some (.pointer (some ⟨pg, 0, none⟩)) := (m_rd M11.out).cell 28
      have hpl : m + k < σ.ps.length := by rw [HO.out.pl]; omega
      have hq := (m_pn M11.out).s (m + k) (pg, ⟨σ.r.cl, m + k, 0, 9⟩) (by simp only; rw [List.getElem?_set_self hpl])
      have HQ := hid hq
      clear hq
      go_wp2_with fail
      refine (pn_next σ.eb pg W11 ⟨σ.r.cl, m + k, 0, 9⟩ HQ.out).mono ?_
      rintro e w' ⟨rfl, rfl⟩
      go_wp2_with fail
      refine (rthen_any σ.g { σ.r with slot := (k : Int), pin := .pointer (some ⟨pg, 0, none⟩) } 9 _ _ _ W11 (m_rd M11.out)).mono ?_
      intro e w12 hset
      have M12 := hid (m_set M11.out hset rfl rfl)
      obtain ⟨rfl, _, _⟩ := hset
      go_wp2_with fail
      go_ret
      exact ⟨rfl, lv', .inr (.inr ⟨HV.out, k, pg, HFR.out.symm, M12.out⟩)⟩
  · have d1 : (v != 0) = true := by rw [bne_iff_ne]; exact hv0
    have d2 : (v == 0) = false := by rw [beq_eq_false_iff_ne]; exact hv0
    go_wp2_with fail
    refine calls_world fun W7 hW7 => ?_
    have M7 := hid (show Mem B w0 (RS.L B { σ with s := σ.s.load σ.r.cl 0, lv := lv', r := { σ.r with slot := fr } } ++ R) W7 from by rw [hW7]; exact m_put M6.out 27 (.int .i64 fr) { σ.r with slot := fr } rfl rfl rfl)
    clear hW7 a2 c27 f27
    refine (rend_any σ.g { σ.r with slot := fr } { RsV.zero with er := 13 } W7 (m_rd M7.out)).mono ?_
    intro e w8 hset
    have M8 := hid (m_fin M7.out hset rfl)
    obtain ⟨rfl, _, _⟩ := hset
    go_wp2_with fail
    go_ret
    exact ⟨rfl, lv', .inl ⟨by rw [HV.out]; exact hv0, by rw [← HFR.out]; exact M8.out⟩⟩
end Go.Proofs.YtjcdknhejcbpiaaGreat
