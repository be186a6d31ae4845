/- Lemmas that the proof of the last text leans on; no condition. -/
import Derived.Test.YtjcdknhejcbpiaaGreatNb25
import Derived.Test.YtjcdknhejcbpiaaGreatNb11
namespace Go.Proofs.YtjcdknhejcbpiaaGreat
open Go.RowKit
set_option linter.unusedVariables false
set_option linter.unusedSimpArgs false
set_option linter.unusedSectionVars false
set_option maxRecDepth 100000
theorem ArM.off {A : ArA} {w : World} {ns : List An} {st : Int} (h : ArM A w ns st) {k : Nat} {t : TypeId} {cs : Array Value} (hb : Blk w k t cs) (h1 : t ≠ 164) (h2 : t ≠ 211) (h3 : t ≠ 213) : ¬ A.mut k := by
  rintro (rfl | rfl | rfl | rfl)
  · exact Blk.ne hb h.a h1 rfl
  · exact Blk.ne hb h.l h2 rfl
  · obtain ⟨bs, _, hm⟩ := h.m
    have t : w.heap[A.mb]? = some (.cells cs t (0, 0)) := hb
    rw [hm] at t
    cases t
  · exact Blk.ne hb h.b1 h3 rfl
theorem callF_enter {F : FuncId} {fn : Func} {c : Code} (hf : Tryz.prog.funcs[F]? = some fn) (hname : (fn.name == "runtime.NumGoroutine") = false) (hb : fn.body = some c) (args : Array Value) (w : World) : (callFunc F args).run Tryz.prog w = .ok (.enter F args) w := by
  have h1 : fn.name ≠ "runtime.NumGoroutine" := by simpa using hname
  simp [callFunc, hf, h1, hb]
def ConOut (x : Nd) (w : World) (e : Ending) (w' : World) : Prop := ∃ a n c, e = .returned (x.v a n c) ∧ InP Kd.cells 4 w' (fun k => w.heap.size ≤ k) a n x.ks ∧ (x.ks = [] → a = none ∧ c = 0) ∧ Ch (fun _ => False) w w'
set_option maxHeartbeats 4000000 in
theorem put1_any (A : ArA) (ns : List An) (st : Int) (x : Nd) (bp bc br pb rb : Nat) (F : FuncId) (caps : Array Value) (todo rv r1 r2 r3 r4 : Value) (w : World) (h : ArM A w ns st) (hP : ArP ns) (hx : x.ok)
    (hp : Blk w bp 242 #[.pointer (some ⟨pb, 0, none⟩)]) (hc : Blk w bc 292 #[.func (.func F) #[] caps]) (hr : Blk w br 246 #[.pointer (some ⟨rb, 0, none⟩)]) (hpen : Blk w pb 248 #[.pointer (some ⟨A.ab, 0, none⟩), todo, rv]) (hrb : Blk w rb 102 #[.int .u64 0, r1, r2, r3, r4])
    (hkids : ∀ k ∈ x.ks, ∃ z, ns[k.at']? = some z ∧ z.x.h + 1 = x.h ∧ z.x.ms = k.m) (hroom : ns.length < A.n) (hn : A.n ≤ 16384) (hrk : ∀ y ∈ ns, ¬ y.kb rb)
    (hcon : ∀ w', Ch (fun _ => False) w w' → Calls Tryz.prog F caps w' (ConOut x w')) (hin : ∀ w', (callFunc F caps).run Tryz.prog w' = .ok (.enter F caps) w') :
    Calls Tryz.prog 167 #[.pointer (some ⟨bp, 0, none⟩), .pointer (some ⟨bc, 0, none⟩), .pointer (some ⟨br, 0, none⟩)] w fun e w' => ∃ y : An, y.x = x ∧ e = .returned (.tuple #[.int .u64 (hdl ns.length), .int .i64 0]) ∧ ArM A w' (ns ++ [y]) st ∧ Ch (fun k => A.mut k ∨ k = rb) w w' ∧ (∀ k, y.kb k → w.heap.size ≤ k) ∧ Blk w' rb 102 #[.int .u64 (hdl ns.length), r1, r2, r3, r4] := by
  have H := hid h
  have HP := hid hP
  have HX := hid hx
  have HBP := hid hp
  have HBC := hid hc
  have HBR := hid hr
  have HPEN := hid hpen
  have HRB := hid hrb
  have HK := hid hkids
  have HRK := hid hrk
  have HCON := hid hcon
  clear h hP hx hp hc hr hpen hrb hkids hrk hcon
  obtain ⟨SS, hSS⟩ : ∃ S : Nat → Prop, ∀ j, S j ↔ (j = bp ∨ j = pb ∨ j = bc) := ⟨_, fun _ => Iff.rfl⟩
  have hS1 : Mix.Has SS bp := (hSS _).2 (.inl rfl)
  have hS2 : Mix.Has SS pb := (hSS _).2 (.inr (.inl rfl))
  have hS3 : Mix.Has SS bc := (hSS _).2 (.inr (.inr rfl))
  have HSS := hid hSS
  clear hSS
  have c0 : w.cell? ⟨bp, 0, none⟩ = some (.pointer (some ⟨pb, 0, none⟩)) := HBP.out.cell 0
  have c1 : w.cell? ⟨pb, 0, none⟩ = some (.pointer (some ⟨A.ab, 0, none⟩)) := HPEN.out.cell 0
  have c2 : w.cell? ⟨bc, 0, none⟩ = some (.func (.func F) #[] caps) := HBC.out.cell 0
  go_enter Tryz.func167, Tryz.ntmps167
  go_wp2_with fail
  refine Mix.wp_region_mix SS (fun i => ([4, 1, 1, 4, 4, 3, 2, 0, 0, 0, 0, 0] : List Nat).getD i 0) [0, 1, 2, 3, 4, 5, 6, 7, 8, 9, 10, 11] (by kernel_rfl) (by kernel_rfl) ?_
  repeat (first | (refine Mix.mix_q (by simp only [List.getElem?_toArray, List.getElem?_cons_zero, List.getElem?_cons_succ]; exact rfl) rfl ?_; go_big_quiet_step (fail); refine wpQuiet_nil ?_) | (refine Mix.mix_p (by simp only [List.getElem?_toArray, List.getElem?_cons_zero, List.getElem?_cons_succ]; exact rfl) rfl rfl ?_; go_big_quiet_step (fail); refine wpQuiet_nil ?_) | (refine Mix.mix_s (by simp only [List.getElem?_toArray, List.getElem?_cons_zero, List.getElem?_cons_succ]; exact rfl) rfl rfl ?_; go_big_quiet_step (fail); refine wpQuiet_nil ?_))
  refine Mix.mix_a (by simp only [List.getElem?_toArray, List.getElem?_cons_zero, List.getElem?_cons_succ]; exact rfl) rfl fun W2 hW2 => ?_
  obtain ⟨y2, rfl⟩ := hW2
  go_wp2_with fail
  refine (HCON.out (w.drewN y2) ((Ch.refl _ w).drewN y2)).mono ?_
  rintro e w3 ⟨ca, cn, cc, rfl, hI, hca, hC⟩
  have HI := hid hI
  have HCA := hid hca
  have C3 := hid (((Ch.refl (fun _ => False) w).drewN y2).trans hC (fun _ _ e => e))
  clear hI hca hC c0 c1 c2
  go_wp2_with fail
  refine ⟨fun j hj => C3.out.block j (by
    rcases (HSS.out j).1 hj with rfl | rfl | rfl
    · exact HBP.out.lt
    · exact HPEN.out.lt
    · exact HBC.out.lt) id, ?_⟩
  refine Mix.mix_e (by simp only [List.getElem?_toArray, List.getElem?_cons_zero, List.getElem?_cons_succ]; exact rfl) rfl fun W4 hW4 => ?_
  obtain ⟨y4, rfl⟩ := hW4
  go_wp2_with fail
  have HM := hid (H.out.keep0 (C3.out.drewN y4))
  refine (alloc_any (fun k => w.heap.size ≤ k) A ns st x ca cn cc (w3.drewN y4) HM.out HP.out HX.out (HI.out.keep ((Ch.refl (fun _ => False) w3).drewN y4) (fun _ _ _ => id) (fun k _ h => h)) HCA.out HK.out hroom hn (fun k hk hm => by have := H.out.foot_lt (.inl hm); omega)).mono ?_
  rintro e w5 ⟨y, hy, rfl, hM5, hC5, hyk⟩
  have HM5 := hid hM5
  have C5 := hid ((C3.out.drewN y4).mono (fp' := A.mut) (fun _ _ e => e.elim) |>.trans hC5 (fun _ _ e => e))
  have hsz3 := C3.out.size
  have HYK := hid (show ∀ k, y.kb k → w.heap.size ≤ k from fun k hk => Nat.le_trans hsz3 (hyk k hk))
  clear hM5 hC5 hyk hsz3
  go_wp2_with fail
  repeat (first | (refine Mix.mix_q (by simp only [List.getElem?_toArray, List.getElem?_cons_zero, List.getElem?_cons_succ]; exact rfl) rfl ?_; go_big_quiet_step (fail); refine wpQuiet_nil ?_) | (refine Mix.mix_p (by simp only [List.getElem?_toArray, List.getElem?_cons_zero, List.getElem?_cons_succ]; exact rfl) rfl rfl ?_; go_big_quiet_step (fail); refine wpQuiet_nil ?_) | (refine Mix.mix_s (by simp only [List.getElem?_toArray, List.getElem?_cons_zero, List.getElem?_cons_succ]; exact rfl) rfl rfl ?_; go_big_quiet_step (fail); refine wpQuiet_nil ?_))
  intro y5
  have R5 := hid ((C5.out.blk HBR.out (H.out.off HBR.out (by decide) (by decide) (by decide))).drewN y5)
  have B5 := hid ((C5.out.blk HRB.out (H.out.off HRB.out (by decide) (by decide) (by decide))).drewN y5)
  have c0 : (w5.drewN y5).cell? ⟨br, 0, none⟩ = some (.pointer (some ⟨rb, 0, none⟩)) := R5.out.cell 0
  have c1 : (w5.drewN y5).cell? ⟨rb, 0, none⟩ = some (.int .u64 0) := B5.out.cell 0
  have f1 := B5.out.free 0
  go_wp2_with fail
  go_ret2
  have CF : Ch (fun k => k = rb) w5 ((w5.drewN y5).setCell ⟨rb, 0, none⟩ (.int .u64 (hdl ns.length))) := ((Ch.refl (fun k => k = rb) w5).drewN y5).set (fun _ => rfl) _
  refine ⟨y, hy, rfl, HM5.out.keep CF (fun k hk hf e => ?_), (C5.out.mono (fun _ _ e => .inl e)).trans CF (fun _ _ e => .inr e), HYK.out, B5.out.put 0 _⟩
  subst e
  rcases hf with hf | hf | hf | ⟨z, hz, hf⟩
  · exact H.out.off HRB.out (by decide) (by decide) (by decide) hf
  · exact Blk.ne HRB.out H.out.b0 (by decide) hf
  · exact Blk.ne HRB.out H.out.b2 (by decide) hf
  · rcases List.mem_append.1 hz with hz | hz
    · exact HRK.out z hz hf
    · simp at hz
      subst hz
      have := HYK.out _ hf
      have := HRB.out.lt
      omega
set_option maxRecDepth 100000
set_option maxHeartbeats 4000000 in
theorem step_any (A : ArA) (ns : List An) (st : Int) (x : Nd) (bp bc br pb rb g off n c : Nat) (F : FuncId) (caps : Array Value) (rv r1 r2 r3 r4 : Value) (w : World) (h : ArM A w ns st) (hP : ArP ns) (hx : x.ok)
    (hp : Blk w bp 242 #[.pointer (some ⟨pb, 0, none⟩)]) (hc : Blk w bc 292 #[.func (.func F) #[] caps]) (hr : Blk w br 246 #[.pointer (some ⟨rb, 0, none⟩)]) (hpen : Blk w pb 248 #[.pointer (some ⟨A.ab, 0, none⟩), .slice (some ⟨g, off, none⟩) (n + 1) c, rv]) (hrb : Blk w rb 102 #[.int .u64 0, r1, r2, r3, r4])
    (hkids : ∀ k ∈ x.ks, ∃ z, ns[k.at']? = some z ∧ z.x.h + 1 = x.h ∧ z.x.ms = k.m) (hroom : ns.length < A.n) (hn : A.n ≤ 16384) (hrk : ∀ y ∈ ns, ¬ y.kb rb) (hpk : ∀ y ∈ ns, ¬ y.kb pb) (hcn : n + 1 ≤ c)
    (hcon : ∀ w', Ch (fun _ => False) w w' → Calls Tryz.prog F caps w' (ConOut x w')) (hin : ∀ w', (callFunc F caps).run Tryz.prog w' = .ok (.enter F caps) w')
    (hit : w.cell? ⟨g, off, none⟩ = some (.func (.func 167) #[] #[.pointer (some ⟨bp, 0, none⟩), .pointer (some ⟨bc, 0, none⟩), .pointer (some ⟨br, 0, none⟩)])) :
    Calls Tryz.prog 120 #[.pointer (some ⟨pb, 0, none⟩)] w fun e w' => ∃ (y : An) (A' : Option Addr), (0 < n → A' = some ⟨g, off + 1, none⟩) ∧ y.x = x ∧ e = .returned (.tuple #[.int .u64 (hdl ns.length), .bool ((n : Int) == 0), .int .i64 0]) ∧ ArM A w' (ns ++ [y]) st ∧ Ch (fun k => A.mut k ∨ k = rb ∨ k = pb) w w' ∧ (∀ k, y.kb k → w.heap.size ≤ k) ∧ Blk w' rb 102 #[.int .u64 (hdl ns.length), r1, r2, r3, r4] ∧ Blk w' pb 248 #[.pointer (some ⟨A.ab, 0, none⟩), .slice A' n (c - 1), rv] := by
  have H := hid h
  have HP := hid hP
  have HX := hid hx
  have HBP := hid hp
  have HBC := hid hc
  have HBR := hid hr
  have HPEN := hid hpen
  have HRB := hid hrb
  have HK := hid hkids
  have HRK := hid hrk
  have HCON := hid hcon
  have HIN := hid hin
  have HPK := hid hpk
  clear h hP hx hp hc hr hpen hrb hkids hrk hcon hin hpk
  have c1 : w.cell? ⟨pb, 1, none⟩ = some (.slice (some ⟨g, off, none⟩) (n + 1) c) := HPEN.out.cell 1
  have d1 : (((n + 1 : Nat) : Int) == 0) = false := by rw [beq_eq_false_iff_ne]; omega
  have d2 : (n + 1 == 0) = false := by simp
  obtain ⟨A', hA'⟩ : ∃ A' : Option Addr, A' = if c = 1 then some ⟨g, off, none⟩ else some ⟨g, off + 1, none⟩ := ⟨_, rfl⟩
  have hsl : ∀ W, (Instr.sliceAt 245 (.slice (some ⟨g, off, none⟩) (n + 1) c) (some (.int .i64 1)) none none).run Tryz.prog W = .ok (.slice A' n (c - 1)) W := fun W => by
    have t := run_slice_low (P := Tryz.prog) 245 276 1 Tryz.underlying245 (by kernel_rfl) (some ⟨g, off, none⟩) (n + 1) c 1 (by omega) hcn W
    rw [hA']
    simpa [Addr.add] using t
  have hA1 : 0 < n → A' = some ⟨g, off + 1, none⟩ := fun h0 => by rw [hA', if_neg (by omega)]
  have HA := hid hA1
  clear hA' hA1
  go_enter Tryz.func120, Tryz.ntmps120
  go_wp2_with fail
  refine (put1_any A ns st x bp bc br pb rb F caps _ rv r1 r2 r3 r4 w H.out HP.out HX.out HBP.out HBC.out HBR.out HPEN.out HRB.out HK.out hroom hn HRK.out HCON.out HIN.out).mono ?_
  rintro e w2 ⟨y, hy, rfl, hM, hC, hyk, hB⟩
  have HM := hid hM
  have HC := hid hC
  have HY := hid hyk
  have HB := hid hB
  have hnp : ¬ (A.mut pb ∨ pb = rb) := fun e => by
    rcases e with e | e
    · exact H.out.off HPEN.out (by decide) (by decide) (by decide) e
    · exact Blk.ne HPEN.out HRB.out (by decide) e
  have HNP := hid hnp
  have P2 := hid (HC.out.blk HPEN.out hnp)
  clear hM hC hyk hB hnp c1 hit
  have c1 : w2.cell? ⟨pb, 1, none⟩ = some (.slice (some ⟨g, off, none⟩) (n + 1) c) := P2.out.cell 1
  have s1 := P2.out.free 1
  go_wp2_with fail
  refine at_world fun W3 hW3 => ?_
  have P3 := hid (show Blk W3 pb 248 #[.pointer (some ⟨A.ab, 0, none⟩), .slice A' n (c - 1), rv] from by rw [hW3]; exact P2.out.put 1 _)
  have C3 := hid (show Ch (fun k => k = pb) w2 W3 from by rw [hW3]; exact (Ch.refl (fun k => k = pb) w2).set (fun _ => rfl) _)
  clear hW3 c1 s1 hsl
  have c1 : W3.cell? ⟨pb, 1, none⟩ = some (.slice A' n (c - 1)) := P3.out.cell 1
  refine Mix.wp_region_mix (fun _ => True) (fun i => ([0, 0, 0, 0, 0, 0, 0, 0, 0, 0] : List Nat).getD i 0) [0, 1, 2, 3, 4, 5, 6, 7, 8, 9] (by kernel_rfl) (by kernel_rfl) ?_
  repeat (first | (refine Mix.mix_q (by simp only [List.getElem?_toArray, List.getElem?_cons_zero, List.getElem?_cons_succ]; exact rfl) rfl ?_; go_big_quiet_step (fail); refine wpQuiet_nil ?_) | (refine Mix.mix_p (by simp only [List.getElem?_toArray, List.getElem?_cons_zero, List.getElem?_cons_succ]; exact rfl) rfl rfl ?_; go_big_quiet_step (fail); refine wpQuiet_nil ?_) | (refine Mix.mix_s (by simp only [List.getElem?_toArray, List.getElem?_cons_zero, List.getElem?_cons_succ]; exact rfl) rfl rfl ?_; go_big_quiet_step (fail); refine wpQuiet_nil ?_))
  intro y5
  go_wp2_with fail
  refine bodyPost_ret (v := .tuple #[.int .u64 (hdl ns.length), .bool ((n : Int) == 0), .int .i64 0]) (by simp [results, Tryz.results120, go_sem]) rfl ⟨y, A', HA.out, hy, rfl, HM.out.keep (C3.out.drewN y5) (fun k hk hf e => ?_), (HC.out.mono (fp' := fun k => A.mut k ∨ k = rb ∨ k = pb) (fun _ _ e => e.elim .inl (fun e => .inr (.inl e)))).trans (C3.out.drewN y5) (fun _ _ e => .inr (.inr e)), HY.out, (C3.out.blk HB.out (fun e => HNP.out (.inr e.symm))).drewN y5, P3.out.drewN y5⟩
  subst e
  rcases hf with hf | hf | hf | ⟨z, hz, hf⟩
  · exact H.out.off HPEN.out (by decide) (by decide) (by decide) hf
  · exact Blk.ne HPEN.out H.out.b0 (by decide) hf
  · exact Blk.ne HPEN.out H.out.b2 (by decide) hf
  · rcases List.mem_append.1 hz with hz | hz
    · exact HPK.out z hz hf
    · simp at hz
      subst hz
      have := HY.out _ hf
      have := HPEN.out.lt
      omega
end Go.Proofs.YtjcdknhejcbpiaaGreat
