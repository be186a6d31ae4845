/- Lemmas that the proof of the last text leans on; no condition. -/
import Derived.Test.YtjcdknhejcbpiaaGreatNb29
namespace Go.Proofs.YtjcdknhejcbpiaaGreat
open Go.RowKit
set_option linter.unusedVariables false
set_option linter.unusedSimpArgs false
set_option linter.unusedSectionVars false
set_option maxRecDepth 100000
theorem in1 (args : Array Value) (w : World) : (callFunc 161 args).run Tryz.prog w = .ok (.enter 161 args) w := callF_enter Tryz.func161 (by kernel_rfl) rfl args w
theorem in2 (args : Array Value) (w : World) : (callFunc 162 args).run Tryz.prog w = .ok (.enter 162 args) w := callF_enter Tryz.func162 (by kernel_rfl) rfl args w
theorem ArP.snoc {ns : List An} {y : An} (h : ArP ns) (hx : y.x.ok) (hk : ∀ k ∈ y.x.ks, ∃ z, ns[k.at']? = some z ∧ z.x.h + 1 = y.x.h ∧ z.x.ms = k.m) : ArP (ns ++ [y]) := by
  refine ⟨fun z hz => ?_, fun i z hz k hk' => ?_⟩
  · rcases List.mem_append.1 hz with hz | hz
    · exact h.ok z hz
    · simp at hz; subst hz; exact hx
  · have hlt := (List.getElem?_eq_some_iff.1 hz).1
    simp at hlt
    have key : ∀ (j : Nat) (u : An), ns[j]? = some u → (ns ++ [y])[j]? = some u := fun j u hj => by rw [List.getElem?_append_left (List.getElem?_eq_some_iff.1 hj).1, hj]
    by_cases hi : i < ns.length
    · rw [List.getElem?_append_left hi] at hz
      obtain ⟨h1, u, h2, h3⟩ := h.kids i z hz k hk'
      exact ⟨h1, u, key _ _ h2, h3⟩
    · obtain rfl : i = ns.length := by omega
      rw [List.getElem?_append_right (by omega), Nat.sub_self] at hz
      simp at hz
      subst hz
      obtain ⟨u, h2, h3⟩ := hk k hk'
      exact ⟨(List.getElem?_eq_some_iff.1 h2).1, u, key _ _ h2, h3⟩
theorem con_any {A : ArA} {w : World} {W0 : Nat} {ns : List An} {st : Int} {pb g rl : Nat} {sps : List Sp} {its : List It} {k : Nat} {ys : List An} (h : PenM A w W0 ns st pb g rl sps its k ys) {sp : Sp} {it : It} (hsp : sps[k]? = some sp) (hit : its[k]? = some it) :
    ∃ F caps, Blk w it.bc 292 #[.func (.func F) #[] caps] ∧ (∀ w', Ch (fun _ => False) w w' → Calls Tryz.prog F caps w' (ConOut (sp.nd ns.length sps) w')) ∧ (∀ w', (callFunc F caps).run Tryz.prog w' = .ok (.enter F caps) w') := by
  have hok := h.ok k sp hsp
  have hI := h.item k sp it hsp hit
  rcases hI.c with ⟨h0, h1, h2, h3⟩ | ⟨h1, h1s, h2, ⟨tc, h3, h4⟩, h5, scs, h6, h7⟩
  · refine ⟨_, _, h2.1, fun w' c => (add1_any it.b1 sp.s w' (c.blk h3.1 id)).mono ?_, in1 _⟩
    rintro e w2 ⟨rfl, hc⟩
    refine ⟨none, 0, 0, by simp [Nd.v, Sp.nd, h0], ?_, fun _ => ⟨rfl, rfl⟩, hc⟩
    have : (sp.nd ns.length sps).ks = [] := by simp [Sp.nd, h1]
    rw [this]
    exact InP.nil _ _ _ _ _
  · rcases hok with ⟨e0, _⟩ | ⟨_, _, _, k4, k5, k6, _, _⟩
    · omega
    refine ⟨_, _, h2.1, fun w' c => (add2_any it.b1 it.b2 it.sb it.c sp.h sp.ks.length tc scs (sp.nd ns.length sps).ks w' (by simp [Sp.nd]) k5 (c.blk h3.1 id) h4 (c.blk h5.1 id) (c.blk h6.1 id) (fun i x hx => ?_)).mono ?_, in2 _⟩
    · have hx' : (sp.ks.map fun j => (⟨ns.length + j, mAt 0 sps j⟩ : Kd))[i]? = some x := hx
      rw [List.getElem?_map] at hx'
      obtain ⟨j, hj, rfl⟩ := Option.map_eq_some_iff.1 hx'
      obtain ⟨r, hr, hs⟩ := h7 i j hj
      obtain ⟨q, _, hjk, hq, _⟩ := k6 j (List.mem_of_getElem? hj)
      rw [Nat.sub_zero] at hq
      unfold fOf at hr
      rw [if_pos (Nat.zero_le _), Nat.sub_zero] at hr
      obtain ⟨itj, hitj, rfl⟩ := Option.map_eq_some_iff.1 hr
      have hroot := h.root j q itj hq hitj
      rw [if_pos (by omega)] at hroot
      have hm : mAt 0 sps j = q.m := by unfold mAt; rw [Nat.sub_zero, hq]
      refine ⟨itj.rb, (q.h : Int), hs, ?_⟩
      show Blk w' itj.rb 102 #[.int .u64 (hdl (ns.length + j)), .int .i64 (q.h : Int), .int .i64 (mAt 0 sps j).b, .int .i64 (mAt 0 sps j).r, .int .i64 (mAt 0 sps j).l]
      rw [hm]
      exact c.blk hroot id
    · rintro e w2 ⟨a, c', rfl, ho, hc⟩
      refine ⟨a, sp.ks.length, c', by simp [Nd.v, Sp.nd, h1s], ?_, fun e0 => ?_, hc⟩
      · exact InP.ofOwn kd_len (by simp [Sp.nd]) ho _ (fun _ _ h => h)
      · have : sp.ks = [] := by simpa [Sp.nd] using e0
        rw [this] at k4
        simp at k4
set_option maxHeartbeats 2000000 in
theorem pen_step {A : ArA} {w : World} {W0 : Nat} {ns : List An} {st : Int} {pb g rl : Nat} {sps : List Sp} {its : List It} {k : Nat} {ys : List An} (h : PenM A w W0 ns st pb g rl sps its k ys) (hk : k < sps.length) (hroom : ns.length + sps.length ≤ A.n) (hn : A.n ≤ 16384) :
    Calls Tryz.prog 120 #[.pointer (some ⟨pb, 0, none⟩)] w fun e w' => ∃ y, e = .returned (.tuple #[.int .u64 (hdl (ns.length + k)), .bool (((sps.length - (k + 1) : Nat) : Int) == 0), .int .i64 0]) ∧ PenM A w' W0 ns st pb g rl sps its (k + 1) (ys ++ [y]) ∧ Ch (fun j => A.mut j ∨ j = pb ∨ ∃ it ∈ its, it.rb = j) w w' ∧ ∀ b, y.kb b → w.heap.size ≤ b := by
  obtain ⟨sp, hsp⟩ : ∃ sp, sps[k]? = some sp := ⟨_, List.getElem?_eq_getElem hk⟩
  obtain ⟨it, hit⟩ : ∃ it, its[k]? = some it := ⟨_, List.getElem?_eq_getElem (by rw [h.len]; exact hk)⟩
  have hok := h.ok k sp hsp
  have hI := h.item k sp it hsp hit
  have hR := h.root k sp it hsp hit
  rw [if_neg (Nat.lt_irrefl k)] at hR
  obtain ⟨F, caps, hbc, hcon, hin⟩ := con_any h hsp hit
  obtain ⟨a, c, hpen, hac⟩ := h.pen
  obtain ⟨rfl, hcn⟩ := hac hk
  obtain ⟨tcs, htc, htv⟩ := h.todo
  have hpbl := hpen.lt
  have hlen : (ns ++ ys).length = ns.length + k := by rw [List.length_append, h.yl]
  have hkids : ∀ kd ∈ (sp.nd ns.length sps).ks, ∃ z, (ns ++ ys)[kd.at']? = some z ∧ z.x.h + 1 = (sp.nd ns.length sps).h ∧ z.x.ms = kd.m := by
    intro kd hkd
    obtain ⟨j, hj, rfl⟩ := List.mem_map.1 (show kd ∈ sp.ks.map fun j => (⟨ns.length + j, mAt 0 sps j⟩ : Kd) from hkd)
    rcases hok with ⟨_, _, _, e, _⟩ | ⟨_, _, _, _, _, k6, _, _⟩
    · rw [e] at hj; simp at hj
    · obtain ⟨q, _, hjk, hq, hqh, _⟩ := k6 j hj
      rw [Nat.sub_zero] at hq
      obtain ⟨z, hz⟩ : ∃ z, ys[j]? = some z := ⟨_, List.getElem?_eq_getElem (by rw [h.yl]; omega)⟩
      obtain ⟨q', hq', hzx⟩ := h.yx j z hz
      rw [hq] at hq'
      injection hq' with hq'
      subst hq'
      refine ⟨z, ?_, by rw [hzx]; exact hqh, ?_⟩
      · show (ns ++ ys)[ns.length + j]? = some z
        rw [List.getElem?_append_right (by omega), show ns.length + j - ns.length = j by omega, hz]
      · rw [hzx, nd_ms (h.ok j q hq)]
        show q.m = mAt 0 sps j
        unfold mAt
        rw [Nat.sub_zero, hq]
  refine (step_any A (ns ++ ys) st (sp.nd ns.length sps) it.bp it.bc it.br pb it.rb g k (sps.length - (k + 1)) c F caps _ _ _ _ _ w h.ar h.ap (nd_ok hok (by omega)) hI.p.1 hbc hI.r.1 (by rw [show sps.length - (k + 1) + 1 = sps.length - k by omega]; exact hpen) hR hkids (by rw [hlen]; omega) hn (fun y hy hb => (h.off y hy _ hb).2 it (List.mem_of_getElem? hit) rfl) (fun y hy hb => (h.off y hy _ hb).1 rfl) (by omega) hcon hin (by
    rw [htc.cell k]
    exact htv k it hit)).mono ?_
  rintro e w' ⟨y, A', hA', hy, rfl, hM, hC, hyk, hB, hP⟩
  rw [hlen] at hB ⊢
  have hnm : ∀ (b : Nat) (u : TypeId) (cs : Array Value), Blk w b u cs → u ≠ 164 → u ≠ 211 → u ≠ 213 → u ≠ 102 → u ≠ 248 → ¬ (A.mut b ∨ b = it.rb ∨ b = pb) := fun b u cs hb h1 h2 h3 h4 h5 e => by
    rcases e with e | e | e
    · exact h.ar.off hb h1 h2 h3 e
    · exact Blk.ne hb hR h4 e
    · exact Blk.ne hb hpen h5 e
  have hbnd := hC.size
  refine ⟨y, rfl, ⟨h.len, by simp [h.yl], hk, h.ok, by rw [← List.append_assoc]; exact hM, ?_, fun j z hz => ?_, ⟨A', c - 1, hP, fun hl => ⟨hA' (by omega), by omega⟩⟩, ⟨tcs, hC.blk htc (hnm _ _ _ htc (by decide) (by decide) (by decide) (by decide) (by decide)), htv⟩, fun i s t h1 h2 => ?_, fun i s t h1 h2 => ?_, h.diff, fun z hz b hb => ?_, h.rlast, h.old⟩, hC.mono (fun i hi e => ?_), hyk⟩
  · rw [← List.append_assoc]
    exact h.ap.snoc (by rw [hy]; exact nd_ok hok (by omega)) (by rw [hy]; exact hkids)
  · by_cases hjl : j < ys.length
    · rw [List.getElem?_append_left hjl] at hz
      exact h.yx j z hz
    · have hlt := (List.getElem?_eq_some_iff.1 hz).1
      simp at hlt
      obtain rfl : j = ys.length := by omega
      rw [List.getElem?_append_right (by omega), Nat.sub_self] at hz
      simp at hz
      subst hz
      exact ⟨sp, by rw [h.yl]; exact hsp, hy⟩
  · exact (h.item i s t h1 h2).keep hC (fun b u cs hb hq _ => hnm b u cs hb (fun e => absurd (e ▸ hq) (by unfold QT; decide)) (fun e => absurd (e ▸ hq) (by unfold QT; decide)) (fun e => absurd (e ▸ hq) (by unfold QT; decide)) (fun e => absurd (e ▸ hq) (by unfold QT; decide)) (fun e => absurd (e ▸ hq) (by unfold QT; decide))) (fun _ _ h => h) (fun _ _ _ h => h)
  · by_cases hik : i = k
    · subst hik
      rw [hsp] at h1
      rw [hit] at h2
      injection h1 with h1
      injection h2 with h2
      subst h1 h2
      rw [if_pos (by omega)]
      exact hB
    · have hr := h.root i s t h1 h2
      have e : (if i < k + 1 then (hdl (ns.length + i) : Int) else 0) = if i < k then (hdl (ns.length + i) : Int) else 0 := by
        by_cases hlt : i < k
        · rw [if_pos hlt, if_pos (by omega)]
        · rw [if_neg hlt, if_neg (by omega)]
      rw [e]
      refine hC.blk hr (fun e => ?_)
      rcases e with e | e | e
      · exact h.ar.off hr (by decide) (by decide) (by decide) e
      · exact h.diff i k t it h2 hit hik e
      · exact Blk.ne hr hpen (by decide) e
  · rw [← List.append_assoc] at hz
    rcases List.mem_append.1 hz with hz | hz
    · exact h.off z hz b hb
    · simp at hz
      subst hz
      have hge := hyk b hb
      refine ⟨by omega, fun t ht e => ?_⟩
      obtain ⟨i, hi⟩ := List.getElem?_of_mem ht
      obtain ⟨s, hs⟩ : ∃ s, sps[i]? = some s := ⟨_, List.getElem?_eq_getElem (by rw [← h.len]; exact (List.getElem?_eq_some_iff.1 hi).1)⟩
      have := (h.root i s t hs hi).lt
      omega
  · rcases e with e | e | e
    · exact .inl e
    · exact .inr (.inr ⟨it, List.mem_of_getElem? hit, e.symm⟩)
    · exact .inr (.inl e)
end Go.Proofs.YtjcdknhejcbpiaaGreat
