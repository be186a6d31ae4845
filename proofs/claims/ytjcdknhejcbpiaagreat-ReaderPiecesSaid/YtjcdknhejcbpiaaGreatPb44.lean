/- Texts XRnV for XPcs, by trim.py. -/
import Derived.Test.YtjcdknhejcbpiaaGreatPb42
namespace Go.Proofs.YtjcdknhejcbpiaaGreat
open Go.RowKit
set_option linter.unusedVariables false
set_option linter.unusedSimpArgs false
set_option linter.unusedSectionVars false
theorem Dn.at_ {f : Ms → Int} {tx : List UInt8} {ns : List An} {ix : Nat} {n r : Int} {base : Ms} (h : Dn f tx ns ix n r base) : ∃ z, ns[ix]? = some z := by
  obtain ⟨u, pre, post, hn, _⟩ := h.ex
  cases hn with
  | leaf hi e => exact ⟨_, hi⟩
  | node hi e hl hm hk => exact ⟨_, hi⟩
section
variable {B : Nat} {w0 w : World} {R : List Res} {σ σ' : RS} {bs' : List Bx} {y : Ly} {n m : Nat} {ts : List (List UInt8)} {hk hk' : Option Nat}
/-- A cursor has moved. -/
theorem RnOk.cur (K : RnOk σ y n m ts none) (S : Same σ σ') (O' : σ'.Ok y n m) (h1 : σ'.s = σ.s) (h3 : σ'.ps = σ.ps) {k : Nat} {s : Snp} {c : Int} (hs : σ.sl[k]? = some (some s)) (h2 : σ'.sl = σ.sl.set k (some { s with cu := c })) (hc0 : 0 ≤ c) (hc1 : c ≤ s.x.b) : RnOk σ' y n m ts none := by
  refine K.of S O' (by rw [h1]) (by rw [h1]) (fun j t hj => ?_) (fun j hj hne => ?_)
  · rw [h2] at hj
    rcases sset hj with ⟨_, e⟩ | ⟨_, hj⟩
    · injection e with e
      subst e
      obtain ⟨i, r, a, b, c', d, _⟩ := K.sn k s hs
      exact ⟨i, r, a, b, c', d, hc0, hc1⟩
    · exact K.sn j t hj
  · rw [h1, h2, h3]
    by_cases hjk : j = k
    · subst hjk
      rcases K.pn j hj (fun e => by cases e) with ⟨a, _, _⟩ | ⟨s', g, q, _, b, c', d⟩
      · rw [hs] at a
        injection a with a
        cases a
      · exact .inr ⟨_, g, q, List.getElem?_set_self (List.getElem?_eq_some_iff.1 hs).1, b, c', d⟩
    · rw [List.getElem?_set, if_neg (fun e => hjk e.symm)]
      exact K.pn j hj (fun e => by cases e)
set_option maxHeartbeats 1000000 in
theorem stp_seek {k : Nat} {pos : Int} (M : Mem B w0 (σ.L B ++ (boxR bs' :: R)) w) (K : RnOk σ y n m ts none) (hp : PgAt σ bs' n m ts (.seek k pos)) :
    Calls Tryz.prog 15 #[.pointer (some ⟨σ.g, 0, none⟩)] w (StepTo B w0 R σ bs' y n m ts (.seek k pos)) := by
  obtain ⟨hb, hd, hph, ob, zb, rb, s, op, hdv, hs, hop, hp0, hp1, rfl⟩ := hp
  have b1 : Blk w ob 26 op.arr := m_box M ⟨ob, _, _⟩ (.head _)
  have b2 : Blk w zb 140 #[.pointer (some ⟨s.g, 0, none⟩)] := m_box M ⟨zb, _, _⟩ (.tail _ (.head _))
  have b3 : Blk w rb 45 #[.pointer (some ⟨σ.g, 0, none⟩)] := m_box M ⟨rb, _, _⟩ (.tail _ (.tail _ (.head _)))
  refine stpb_of M K.O hb _ _ hdv (fun W => by kernel_rfl) fun R' W M' c => ?_
  refine (seek_m M' hs (c.blk b1 id) (c.blk b2 id) (c.blk b3 id)).mono ?_
  rintro e w' ⟨rfl, M2⟩
  rw [hop] at M2
  have S : Same σ { σ with sl := σ.sl.set k (some { s with cu := pos }), r := σ.r.fin { RsV.zero with at' := pos }, tx := [] } := ⟨rfl, rfl, rfl, rfl, rfl, rfl, rfl, rfl, rfl, rfl, rfl, rfl, rfl, rfl, rfl, rfl⟩
  exact ⟨0, _, rfl, M2, S, .fin { RsV.zero with at' := pos }, K.cur S ((K.O.slot k (some { s with cu := pos })).rd _ [] rfl rfl) rfl rfl hs rfl hp0 hp1, ⟨rfl, rfl, rfl⟩, ⟨rfl, rfl, ⟨s, hs, rfl⟩, rfl⟩, rfl⟩
set_option maxHeartbeats 1000000 in
theorem stp_take {k : Nat} {a : Bool} {pos : Int} (M : Mem B w0 (σ.L B ++ (boxR bs' :: R)) w) (K : RnOk σ y n m ts none) (hp : PgAt σ bs' n m ts (.take k a pos)) :
    Calls Tryz.prog 15 #[.pointer (some ⟨σ.g, 0, none⟩)] w (StepTo B w0 R σ bs' y n m ts (.take k a pos)) := by
  obtain ⟨hb, hd, hph, hdv, hop, hsl, htx, hnx, s, hs, hp0, hp1⟩ := hp
  cases a with
  | false =>
    refine stp_of M K.O hb _ hdv (fun W => by kernel_rfl) fun R' W M' => ?_
    refine (taken_read M' hop).mono ?_
    rintro e w' ⟨rfl, M2⟩
    rw [htx] at M2
    have S : Same σ { σ with r := σ.r.fin RsV.zero, tx := [] } := ⟨rfl, rfl, rfl, rfl, rfl, rfl, rfl, rfl, rfl, rfl, rfl, rfl, rfl, rfl, rfl, rfl⟩
    exact ⟨0, _, rfl, M2, S, .fin RsV.zero, K.same S (K.O.rd _ [] rfl rfl) rfl rfl rfl, ⟨rfl, rfl, rfl⟩, ⟨rfl, rfl, rfl, rfl⟩, rfl⟩
  | true =>
    refine stp_of M K.O hb _ hdv (fun W => by kernel_rfl) fun R' W M' => ?_
    refine (taken_next M' K.O hop hsl hs).mono ?_
    rintro e w' ⟨rfl, M2⟩
    rw [htx, hnx] at M2
    have S : Same σ { σ with sl := σ.sl.set k (some { s with cu := pos }), r := σ.r.fin { RsV.zero with at' := pos }, tx := [] } := ⟨rfl, rfl, rfl, rfl, rfl, rfl, rfl, rfl, rfl, rfl, rfl, rfl, rfl, rfl, rfl, rfl⟩
    exact ⟨0, _, rfl, M2, S, .fin { RsV.zero with at' := pos }, K.cur S ((K.O.slot k (some { s with cu := pos })).rd _ [] rfl rfl) rfl rfl hs rfl hp0 hp1, ⟨rfl, rfl, rfl⟩, ⟨rfl, rfl, ⟨s, hs, rfl⟩, rfl⟩, rfl⟩
set_option maxHeartbeats 1000000 in
theorem stp_rune {k : Nat} {tx : List UInt8} {q ix : Nat} {rest : Int} {base : Ms} (M : Mem B w0 (σ.L B ++ (boxR bs' :: R)) w) (K : RnOk σ y n m ts none) (hp : PgAt σ bs' n m ts (.rune k tx q ix rest base)) :
    Calls Tryz.prog 15 #[.pointer (some ⟨σ.g, 0, none⟩)] w (StepTo B w0 R σ bs' y n m ts (.rune k tx q ix rest base)) := by
  obtain ⟨hb, hd, hph, hdv, hsh, hat, hre, hba, D⟩ := hp
  have htl : tx.length ≤ 1000000 := by
    obtain ⟨_, i, _, _, ht⟩ := hsh
    have := K.tl tx (List.mem_of_getElem? ht)
    omega
  obtain ⟨z, hz⟩ := D.at_
  refine stp_of M K.O hb _ hdv (fun W => by kernel_rfl) fun R' W M' => ?_
  refine (visitRune_m M' K.O K.P htl (by rw [hre, hba]; exact D) hat hz).mono ?_
  rintro e w' ⟨rfl, ⟨h0, ci, k', r, hk, hc, M2⟩ | ⟨h0, M2⟩⟩
  · rw [hre, Int.sub_zero] at hc
    rw [hba, Int.add_zero] at M2
    have S : Same σ { σ with r := { σ.r with at' := hdl k'.at', rest := r, base := bsK base z.x.ks ci } } := ⟨rfl, rfl, rfl, rfl, rfl, rfl, rfl, rfl, rfl, rfl, rfl, rfl, rfl, rfl, rfl, rfl⟩
    exact ⟨hdl ix, _, rfl, M2, S, .rune k tx q k'.at' r (bsK base z.x.ks ci), K.same S (K.O.rd _ σ.tx rfl rfl) rfl rfl rfl, ⟨hb, hd, hph, hdv, hsh, rfl, rfl, rfl, by rw [bsK_eq]; exact D.down (fun _ _ => rfl) hz h0 hk hc⟩, ⟨rfl, rfl, rfl, z, hz, .inl ⟨h0, ci, k', r, hk, hc, rfl⟩⟩, hd⟩
  · obtain ⟨pre, post, e1, e2, e3, e4, e5⟩ := D.leaf K.P hz h0
    have hv : σ.r.base.b + ((nthP begB (bs z.x.s) (σ.r.rest - 0).toNat : Nat) : Int) = ((nthP begB (u8s tx) q : Nat) : Int) := by
      rw [hre, hba, Int.sub_zero]
      have hb' : base.b = (pre.length : Int) := by rw [← e2]; rfl
      have hr' : base.r = (cntP begB (u8s pre) : Int) := by rw [← e2]; rfl
      have hlt : rest.toNat < cntP begB (u8s z.x.s.data.toList) := by
        rw [mOf_list, mL_r] at e5
        omega
      have := nth_leaf (p := begB) (n := q) (r := rest.toNat) e1 (by rw [hr'] at e3; omega) hlt
      rw [this, hb']
      show _ = ((pre.length + nthP begB (bs z.x.s) rest.toNat : Nat) : Int)
      push_cast
      rfl
    rw [hv] at M2
    have S : Same σ { σ with r := σ.r.fin { RsV.zero with at' := ((nthP begB (u8s tx) q : Nat) : Int) }, tx := [] } := ⟨rfl, rfl, rfl, rfl, rfl, rfl, rfl, rfl, rfl, rfl, rfl, rfl, rfl, rfl, rfl, rfl⟩
    exact ⟨hdl ix, _, rfl, M2, S, .fin { RsV.zero with at' := ((nthP begB (u8s tx) q : Nat) : Int) }, K.same S (K.O.rd _ [] rfl rfl) rfl rfl rfl, ⟨rfl, rfl, rfl⟩, ⟨rfl, rfl, rfl, z, hz, .inr ⟨h0, rfl⟩⟩, rfl⟩
set_option maxHeartbeats 1000000 in
theorem stp_line {k : Nat} {tx : List UInt8} {q ix : Nat} {rest : Int} {base : Ms} (M : Mem B w0 (σ.L B ++ (boxR bs' :: R)) w) (K : RnOk σ y n m ts none) (hp : PgAt σ bs' n m ts (.line k tx q ix rest base)) :
    Calls Tryz.prog 15 #[.pointer (some ⟨σ.g, 0, none⟩)] w (StepTo B w0 R σ bs' y n m ts (.line k tx q ix rest base)) := by
  obtain ⟨hb, hd, hph, hdv, hsh, hat, hre, hba, D⟩ := hp
  have htl : tx.length ≤ 1000000 := by
    obtain ⟨_, i, _, _, ht⟩ := hsh
    have := K.tl tx (List.mem_of_getElem? ht)
    omega
  obtain ⟨z, hz⟩ := D.at_
  refine stp_of M K.O hb _ hdv (fun W => by kernel_rfl) fun R' W M' => ?_
  refine (visitLine_m M' K.O K.P htl (by rw [hre, hba]; exact D) hat hz).mono ?_
  rintro e w' ⟨rfl, ⟨h0, ci, k', r, hk, hc, M2⟩ | ⟨h0, M2⟩⟩
  · rw [hre] at hc
    rw [hba] at M2
    have S : Same σ { σ with r := { σ.r with at' := hdl k'.at', rest := r + 1, base := bsK base z.x.ks ci } } := ⟨rfl, rfl, rfl, rfl, rfl, rfl, rfl, rfl, rfl, rfl, rfl, rfl, rfl, rfl, rfl, rfl⟩
    exact ⟨hdl ix, _, rfl, M2, S, .line k tx q k'.at' (r + 1) (bsK base z.x.ks ci), K.same S (K.O.rd _ σ.tx rfl rfl) rfl rfl rfl, ⟨hb, hd, hph, hdv, hsh, rfl, rfl, rfl, by rw [bsK_eq, show r + 1 - 1 = r by omega]; exact D.down (fun _ _ => rfl) hz h0 hk hc⟩, ⟨rfl, rfl, rfl, z, hz, .inl ⟨h0, ci, k', r, hk, hc, rfl⟩⟩, hd⟩
  · obtain ⟨pre, post, e1, e2, e3, e4, e5⟩ := D.leaf K.P hz h0
    have hv : σ.r.base.b + (((nthP (fun b => b == 10) (bs z.x.s) (σ.r.rest - 1).toNat : Nat) : Int) + 1) = ((nthP isLF (u8s tx) q : Nat) : Int) + 1 := by
      rw [hre, hba]
      have hb' : base.b = (pre.length : Int) := by rw [← e2]; rfl
      have hr' : base.l = (cntP isLF (u8s pre) : Int) := by rw [← e2]; rfl
      have hlt : (rest - 1).toNat < cntP isLF (u8s z.x.s.data.toList) := by
        rw [mOf_list, mL_l] at e5
        omega
      have := nth_leaf (p := isLF) (n := q) (r := (rest - 1).toNat) e1 (by rw [hr'] at e3; omega) hlt
      rw [this, hb']
      show _ = ((pre.length + nthP isLF (bs z.x.s) (rest - 1).toNat : Nat) : Int) + 1
      have e9 : nthP (fun b => b == 10) (bs z.x.s) (rest - 1).toNat = nthP isLF (bs z.x.s) (rest - 1).toNat := rfl
      rw [e9]
      push_cast
      omega
    rw [hv] at M2
    have S : Same σ { σ with r := σ.r.fin { RsV.zero with at' := ((nthP isLF (u8s tx) q : Nat) : Int) + 1 }, tx := [] } := ⟨rfl, rfl, rfl, rfl, rfl, rfl, rfl, rfl, rfl, rfl, rfl, rfl, rfl, rfl, rfl, rfl⟩
    exact ⟨hdl ix, _, rfl, M2, S, .fin { RsV.zero with at' := ((nthP isLF (u8s tx) q : Nat) : Int) + 1 }, K.same S (K.O.rd _ [] rfl rfl) rfl rfl rfl, ⟨rfl, rfl, rfl⟩, ⟨rfl, rfl, rfl, z, hz, .inr ⟨h0, rfl⟩⟩, rfl⟩
set_option maxHeartbeats 2000000 in
theorem stp_byte {k : Nat} {a : Bool} {tx : List UInt8} {p0 N d ix : Nat} {rest : Int} {base : Ms} (M : Mem B w0 (σ.L B ++ (boxR bs' :: R)) w) (K : RnOk σ y n m ts none) (hp : PgAt σ bs' n m ts (.byte k a tx p0 N d ix rest base)) :
    Calls Tryz.prog 15 #[.pointer (some ⟨σ.g, 0, none⟩)] w (StepTo B w0 R σ bs' y n m ts (.byte k a tx p0 N d ix rest base)) := by
  obtain ⟨hb, hd, hph, hdv, hop, hsl, hsh, hat, hre, hba, hnx, hnd, hdN, hpN, htx, D⟩ := hp
  obtain ⟨s, i, hs, hsi, hti⟩ := id hsh
  have htl : tx.length ≤ 100000 := K.tl tx (List.mem_of_getElem? hti)
  obtain ⟨z, hz⟩ := D.at_
  have hop' : σ.r.op.k = 7 ∨ σ.r.op.k = 12 := by
    cases a
    · exact .inl hop
    · exact .inr hop
  have htxl : σ.tx.length ≤ 1000000 := by
    rw [htx, List.length_take]
    omega
  refine stp_of M K.O hb _ hdv (fun W => by kernel_rfl) fun R' W M' => ?_
  refine (visitByte_m M' K.O K.P (tx := tx) (by omega) (by rw [hre, hba]; exact D) hat hz hsl hs hop' htxl (by rw [hnx]; omega) (by rw [hnd]; omega)).mono ?_
  rintro e w' ⟨rfl, ⟨h0, ci, k', q, hk, hc, M2⟩ | ⟨h0, c, rn, hrn, hcm, hL⟩⟩
  · rw [hre] at hc
    rw [hba] at M2
    have S : Same σ { σ with r := { σ.r with at' := hdl k'.at', rest := q, base := bsK base z.x.ks ci } } := ⟨rfl, rfl, rfl, rfl, rfl, rfl, rfl, rfl, rfl, rfl, rfl, rfl, rfl, rfl, rfl, rfl⟩
    exact ⟨hdl ix, _, rfl, M2, S, .byte k a tx p0 N d k'.at' q (bsK base z.x.ks ci), K.same S (K.O.rd _ σ.tx rfl rfl) rfl rfl rfl, ⟨hb, hd, hph, hdv, hop, hsl, hsh, rfl, rfl, rfl, hnx, hnd, hdN, hpN, htx, by rw [bsK_eq]; exact D.down (fun _ _ => rfl) hz h0 hk hc⟩, ⟨rfl, rfl, z, hz, .inl ⟨h0, rfl, ci, k', q, hk, hc, rfl⟩⟩, hd⟩
  · obtain ⟨pre, post, e1, e2, e3, e4, e5⟩ := D.leaf K.P hz h0
    rw [hre] at hrn
    subst hrn
    have hb' : base.b = (pre.length : Int) := by rw [← e2]; rfl
    have e3' : p0 + d = pre.length + rn := by
      have : ((p0 + d : Nat) : Int) = base.b + (rn : Int) := e3
      rw [hb'] at this
      omega
    have e5' : rn < z.x.s.size := by
      rw [mOf_list, mL_b, dsize] at e5
      omega
    have hcm' : c = min (N - d) (z.x.s.size - rn) := by rw [hcm, hnd]; rfl
    have htk := take_leaf (o := p0 + d) (k := c) e1 e3' (by omega)
    have htx2 : σ.tx ++ (z.x.s.extract rn (rn + c)).data.toList = (tx.drop p0).take (d + c) := by
      rw [htx, ← htk, List.take_add, List.drop_drop]
    rw [htx2] at hL
    obtain ⟨ri, rr, hri, hsx, hsm, hsx2, hcu0, hcu1⟩ := K.sn k s hs
    have hii : ri = i := by rw [hsi] at hsx2; omega
    subst hii
    obtain ⟨⟨hxb, _, _, hrev⟩, _⟩ := K.rv ri rr tx hri hti
    have hxb' : s.x.b = (tx.length : Int) := by rw [hsx, hxb]; rfl
    have HREV := hid hrev
    clear hrev
    rcases hL with ⟨hlt, tv, M2⟩ | ⟨heq, h7, M2⟩ | ⟨heq, h12, M2⟩
    · rw [hnd] at hlt
      rw [hnx, hnd] at M2
      rcases HREV.out with ⟨h, _⟩ | ⟨jx, t, ht1, ht2, ht3, _⟩
      · rw [h] at hpN
        simp at hpN
        omega
      have M3 : Mem B w0 (RS.L B { σ with r := { σ.r with tx := tv, next := ((p0 + (d + c) : Nat) : Int), need := ((N - (d + c) : Nat) : Int), ph := 12, dv := visF σ.g, at' := s.x.at', rest := ((p0 + (d + c) : Nat) : Int), base := ⟨0, 0, 0⟩ }, tx := (tx.drop p0).take (d + c) } ++ R') w' := by
        rw [show ((p0 + (d + c) : Nat) : Int) = ((p0 + d : Nat) : Int) + (c : Int) by push_cast; omega, show ((N - (d + c) : Nat) : Int) = ((N - d : Nat) : Int) - (c : Int) by omega]
        exact M2
      have S : Same σ { σ with r := { σ.r with tx := tv, next := ((p0 + (d + c) : Nat) : Int), need := ((N - (d + c) : Nat) : Int), ph := 12, dv := visF σ.g, at' := s.x.at', rest := ((p0 + (d + c) : Nat) : Int), base := ⟨0, 0, 0⟩ }, tx := (tx.drop p0).take (d + c) } := ⟨rfl, rfl, rfl, rfl, rfl, rfl, rfl, rfl, rfl, rfl, rfl, rfl, rfl, rfl, rfl, rfl⟩
      have D' : Dn (fun m => m.b) tx σ.ns jx ((p0 + (d + c) : Nat) : Int) ((p0 + (d + c) : Nat) : Int) ⟨0, 0, 0⟩ := by
        have := Dn.start (f := fun m => m.b) rfl ht2 (n := ((p0 + (d + c) : Nat) : Int)) (by omega) (by rw [ht3]; show _ < (tx.length : Int); omega)
        rw [ht3] at this
        exact this
      exact ⟨hdl ix, _, rfl, M3, S, .byte k a tx p0 N (d + c) jx ((p0 + (d + c) : Nat) : Int) ⟨0, 0, 0⟩, K.same S (K.O.rd _ _ rfl rfl) rfl rfl rfl, ⟨hb, hd, rfl, rfl, hop, hsl, hsh, by show s.x.at' = _; rw [hsx]; exact ht1, rfl, rfl, rfl, rfl, by omega, hpN, rfl, D'⟩, ⟨rfl, rfl, z, hz, .inr ⟨h0, c, rn, rfl, hcm', .inl ⟨by omega, rfl, jx, rfl, s, hs, by rw [hsx]; exact ht1⟩⟩⟩, hd⟩
    · rw [hnd] at heq
      have hdc : d + c = N := by omega
      cases a with
      | true => rw [h7] at hop; cases hop
      | false =>
        rw [hdc] at M2
        have S : Same σ { σ with r := Rd.fin { σ.r with next := σ.r.next + c, need := σ.r.need - c } { RsV.zero with s := ⟨((tx.drop p0).take N).toArray⟩ }, tx := [] } := ⟨rfl, rfl, rfl, rfl, rfl, rfl, rfl, rfl, rfl, rfl, rfl, rfl, rfl, rfl, rfl, rfl⟩
        exact ⟨hdl ix, _, rfl, M2, S, .fin { RsV.zero with s := ⟨((tx.drop p0).take N).toArray⟩ }, K.same S (K.O.rd _ _ rfl rfl) rfl rfl rfl, ⟨rfl, rfl, rfl⟩, ⟨rfl, rfl, z, hz, .inr ⟨h0, c, rn, rfl, hcm', .inr ⟨hdc, rfl, rfl⟩⟩⟩, rfl⟩
    · rw [hnd] at heq
      have hdc : d + c = N := by omega
      cases a with
      | false => rw [h12] at hop; cases hop
      | true =>
        rw [hdc] at M2
        have hnxc : σ.r.next + (c : Int) = ((p0 + N : Nat) : Int) := by rw [hnx]; omega
        rw [hnxc] at M2
        have S : Same σ { σ with sl := σ.sl.set k (some { s with cu := ((p0 + N : Nat) : Int) }), r := Rd.fin { σ.r with next := ((p0 + N : Nat) : Int), need := σ.r.need - c } { RsV.zero with at' := ((p0 + N : Nat) : Int), s := ⟨((tx.drop p0).take N).toArray⟩ }, tx := [] } := ⟨rfl, rfl, rfl, rfl, rfl, rfl, rfl, rfl, rfl, rfl, rfl, rfl, rfl, rfl, rfl, rfl⟩
        exact ⟨hdl ix, _, rfl, M2, S, .fin { RsV.zero with at' := ((p0 + N : Nat) : Int), s := ⟨((tx.drop p0).take N).toArray⟩ }, K.cur S ((K.O.slot k (some { s with cu := ((p0 + N : Nat) : Int) })).rd _ _ rfl rfl) rfl rfl hs rfl (by omega) (by rw [hxb']; omega), ⟨rfl, rfl, rfl⟩, ⟨rfl, rfl, z, hz, .inr ⟨h0, c, rn, rfl, hcm', .inr ⟨hdc, ⟨s, hs, rfl⟩, rfl⟩⟩⟩, rfl⟩
/-- A step of any operation. -/
theorem step_all {pg : Pg} (M : Mem B w0 (σ.L B ++ (boxR bs' :: R)) w) (K : RnOk σ y n m ts pg.hk) (hl : σ.s.lg.length < 800000) (hp : PgAt σ bs' n m ts pg) (he : pg.ended = false) :
    Calls Tryz.prog 15 #[.pointer (some ⟨σ.g, 0, none⟩)] w (StepTo B w0 R σ bs' y n m ts pg) := by
  cases pg with
  | fin x => cases he
  | loc x => exact stp_loc M K hp
  | clos => exact stp_clos M K hl hp
  | ep k => exact stp_ep M K hl hp
  | ann k v => exact stp_ann M K hl hp
  | root k => exact stp_root M K hl hp
  | rel k => exact stp_rel M K hl hp
  | seek k pos => exact stp_seek M K hp
  | take k a pos => exact stp_take M K hp
  | byte k a tx p0 N d ix rest base => exact stp_byte M K hp
  | rune k tx q ix rest base => exact stp_rune M K hp
  | line k tx q ix rest base => exact stp_line M K hp
end
end Go.Proofs.YtjcdknhejcbpiaaGreat
