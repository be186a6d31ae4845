/- Texts XParts, XApply, XChD for XChE, by trim.py. -/
import Derived.Test.YtefpabicgefciaaGreatDb04
import Derived.Test.YtefpabicgefciaaGreatDb05
import Derived.Test.YtefpabicgefciaaGreatDb26
import Derived.Test.YtefpabicgefciaaGreatDb03
import Derived.Laws.EntriesVeiled
import Derived.Test.YtefpabicgefciaaGreatDb10
import Derived.ChangeMaps5
namespace Go.Proofs.YtefpabicgefciaaGreat
open Go.RowKit
set_option linter.unusedVariables false
set_option linter.unusedSimpArgs false
set_option linter.unusedSectionVars false
def takeV (sb : Nat) : Value := .func (.func 145) #[] #[.pointer (some ⟨sb, 0, none⟩)]
def mapR (mb : Nat) (es : List (Int × Value)) : Res where
  holds w := MapAt8 w mb es
  foot k := k = mb
  stable h c hn := h.ch c (hn mb rfl)
  lt h k hk := by
    obtain ⟨bs, _, hb⟩ := h
    rw [hk]
    exact (Array.getElem?_eq_some_iff.1 hb).1
set_option maxRecDepth 100000 in
set_option maxHeartbeats 1000000 in
theorem take1_any (B sb : Nat) (r : ByteArray) (n : Nat) (L2 : List Res) (w0 w : World) (h : Mem B w0 (blkR sb 9 #[.string r] :: L2) w) (hn : n ≤ r.size) :
    Calls Tryz.prog 145 #[.int .i64 (n : Int), .pointer (some ⟨sb, 0, none⟩)] w fun e w' => e = .returned (.string (r.extract 0 n)) ∧ Mem B w0 (blkR sb 9 #[.string (r.extract n r.size)] :: L2) w' := by
  have M0 := hid h
  have c0 : w.cell? ⟨sb, 0, none⟩ = some (.string r) := Blk.cell (h.each 0 _ rfl) 0
  have f0 := Blk.free (h.each 0 _ rfl) 0
  have lt := Blk.lt (h.each 0 _ rfl)
  clear h
  go_enter Tryz.func145, Tryz.ntmps145
  go_wp2_with fail
  go_ret
  exact ⟨rfl, M0.out.put (i := 0) rfl 0 (.string (r.extract n r.size))⟩
theorem Mem.write {B b : Nat} {us : Bool} {v v' : Value} {l l' : List UInt8} {L : List Res} {i : Nat} {w0 w w' : World} (h : Mem B w0 L w) (hi : L[i]? = some (bldR B b us v l)) (hb : BldM B w' b true v' l') (c : Ch (fun k => k = b ∨ v.ownBlock = some k) w w') (hf : Fresh w v v') : Mem B w0 (L.set i (bldR B b true v' l')) w' :=
  h.upd (bldR B b true v' l') hi c (fun _ _ e => e) hb (fun k hk => by
    rcases hk with hk | hk
    · exact .inl (.inl hk)
    · rcases hf with e | e
      · exact .inl (.inr (by rw [← e]; exact hk))
      · exact .inr (e k hk))
set_option maxRecDepth 100000 in
set_option maxHeartbeats 1000000 in
theorem parts2_any (B sb ob fb : Nat) (us : Bool) (v : Value) (l : List UInt8) (r : ByteArray) (kk : Int) (n : Nat) (s : ByteArray) (L2 : List Res) (w0 w : World) (h : Mem B w0 (blkR sb 9 #[.string r] :: bldR B ob us v l :: blkR fb 280 #[takeV sb] :: L2) w) (hn : n ≤ r.size) (hl : l.length ≤ 100000000) (hr : r.size ≤ 100000000) :
    Calls Tryz.prog 146 #[.agg #[.int .u8 kk, .int .i64 (n : Int), .string s], .pointer (some ⟨ob, 0, none⟩), .pointer (some ⟨fb, 0, none⟩)] w fun e w' => e = .returned (.tuple #[]) ∧ ∃ v', Mem B w0 (blkR sb 9 #[.string (r.extract n r.size)] :: bldR B ob true v' (l ++ (r.extract 0 n).data.toList) :: blkR fb 280 #[takeV sb] :: L2) w' := by
  have M0 := hid h
  have c0 : w.cell? ⟨fb, 0, none⟩ = some (takeV sb) := Blk.cell (h.each 2 _ rfl) 0
  unfold takeV at c0
  have lt := Blk.lt (h.each 2 _ rfl)
  clear h
  go_enter Tryz.func146, Tryz.ntmps146
  go_wp2_with fail
  refine (take1_any B sb r n _ w0 _ (M0.out.alloc _) hn).mono ?_
  rintro e w1 ⟨rfl, hm⟩
  have M1 := hid hm
  have hsz : (r.extract 0 n).size ≤ 100000000 := by rw [Dl.size_extract]; omega
  have HB := hid (show BldM B w1 ob us v l from hm.each 1 _ rfl)
  clear hm
  go_wp2_with fail
  refine (writeStr_any B ob us v l (r.extract 0 n) w1 HB.out M1.out.bz (by omega)).mono ?_
  rintro e w2 ⟨v', rfl, hb, hc, hf⟩
  have M2 := hid (M1.out.write (i := 1) rfl hb hc hf)
  clear hb hc hf
  go_wp2_with fail
  go_end0
  exact ⟨rfl, v', M2.out⟩
set_option maxRecDepth 100000 in
set_option maxHeartbeats 1000000 in
theorem parts3_any (B sb ob fb : Nat) (us : Bool) (v : Value) (l : List UInt8) (r : ByteArray) (kk : Int) (n : Nat) (s : ByteArray) (L2 : List Res) (w0 w : World) (h : Mem B w0 (blkR sb 9 #[.string r] :: bldR B ob us v l :: blkR fb 280 #[takeV sb] :: L2) w) (hn : n ≤ r.size) (hl : l.length ≤ 100000000) (hr : r.size ≤ 100000000) :
    Calls Tryz.prog 148 #[.agg #[.int .u8 kk, .int .i64 (n : Int), .string s], .pointer (some ⟨ob, 0, none⟩), .pointer (some ⟨fb, 0, none⟩)] w fun e w' => e = .returned (.tuple #[]) ∧ ∃ v', Mem B w0 (blkR sb 9 #[.string (r.extract n r.size)] :: bldR B ob true v' (l ++ (r.extract 0 n).data.toList) :: blkR fb 280 #[takeV sb] :: L2) w' := by
  have M0 := hid h
  have c0 : w.cell? ⟨fb, 0, none⟩ = some (takeV sb) := Blk.cell (h.each 2 _ rfl) 0
  unfold takeV at c0
  have lt := Blk.lt (h.each 2 _ rfl)
  clear h
  go_enter Tryz.func148, Tryz.ntmps148
  go_wp2_with fail
  refine (take1_any B sb r n _ w0 _ (M0.out.alloc _) hn).mono ?_
  rintro e w1 ⟨rfl, hm⟩
  have M1 := hid hm
  have hsz : (r.extract 0 n).size ≤ 100000000 := by rw [Dl.size_extract]; omega
  have HB := hid (show BldM B w1 ob us v l from hm.each 1 _ rfl)
  clear hm
  go_wp2_with fail
  refine (writeStr_any B ob us v l (r.extract 0 n) w1 HB.out M1.out.bz (by omega)).mono ?_
  rintro e w2 ⟨v', rfl, hb, hc, hf⟩
  have M2 := hid (M1.out.write (i := 1) rfl hb hc hf)
  clear hb hc hf
  go_wp2_with fail
  go_end0
  exact ⟨rfl, v', M2.out⟩
set_option maxRecDepth 100000 in
set_option maxHeartbeats 1000000 in
theorem parts4_any (B ob pb : Nat) (us us2 : Bool) (v v2 : Value) (l l2 : List UInt8) (kk n : Int) (s : ByteArray) (L2 : List Res) (w0 w : World) (h : Mem B w0 (bldR B ob us v l :: bldR B pb us2 v2 l2 :: L2) w) (hl : l.length ≤ 100000000) (hl2 : l2.length ≤ 100000000) (hr : s.size ≤ 100000000) :
    Calls Tryz.prog 149 #[.agg #[.int .u8 kk, .int .i64 n, .string s], .pointer (some ⟨ob, 0, none⟩), .pointer (some ⟨pb, 0, none⟩)] w fun e w' => e = .returned (.tuple #[]) ∧ ∃ v' v2', Mem B w0 (bldR B ob true v' (l ++ s.data.toList) :: bldR B pb true v2' (l2 ++ s.data.toList) :: L2) w' := by
  have M0 := hid h
  clear h
  go_enter Tryz.func149, Tryz.ntmps149
  go_wp2_with fail
  refine calls_world fun W1 hW1 => ?_
  obtain ⟨xb, hxb⟩ : ∃ b, b = w.heap.size := ⟨_, rfl⟩
  have M1 := hid (show Mem B w0 (blkR xb 128 #[.int .u8 kk, .int .i64 n, .string s] :: bldR B ob us v l :: bldR B pb us2 v2 l2 :: L2) W1 from by rw [hW1, hxb]; exact M0.out.cons (blkR w.heap.size 128 #[.int .u8 kk, .int .i64 n, .string s]) ((Ch.refl _ _).alloc _) (Blk.new w _ _) (fun k e => Nat.le_of_eq e.symm))
  rw [← hxb]
  clear hW1 hxb
  refine (writeStr_any B ob us v l s W1 (M1.out.each 1 _ rfl) M1.out.bz (by omega)).mono ?_
  rintro e w2 ⟨v', rfl, hb, hc, hf⟩
  have M2 := hid (show Mem B w0 (blkR xb 128 #[.int .u8 kk, .int .i64 n, .string s] :: bldR B ob true v' (l ++ s.data.toList) :: bldR B pb us2 v2 l2 :: L2) w2 from M1.out.write (i := 1) rfl hb hc hf)
  have x2 : w2.cell? ⟨xb, 2, none⟩ = some (.string s) := Blk.cell (M2.out.each 0 _ rfl) 2
  have lx := Blk.lt (M2.out.each 0 _ rfl)
  clear hb hc hf
  go_wp2_with fail
  refine (writeStr_any B pb us2 v2 l2 s w2 (M2.out.each 2 _ rfl) M2.out.bz (by omega)).mono ?_
  rintro e w3 ⟨v2', rfl, hb, hc, hf⟩
  have M3 := hid (show Mem B w0 (blkR xb 128 #[.int .u8 kk, .int .i64 n, .string s] :: bldR B ob true v' (l ++ s.data.toList) :: bldR B pb true v2' (l2 ++ s.data.toList) :: L2) w3 from M2.out.write (i := 2) rfl hb hc hf)
  clear hb hc hf
  go_wp2_with fail
  go_end0
  exact ⟨rfl, v', v2', Mem.drop 1 M3.out⟩
theorem Mem.permI {B : Nat} {w0 w : World} {L : List Res} (σ : List Nat) (h : Mem B w0 L w) (hp : (List.range L.length).Perm σ) : Mem B w0 (σ.map fun i => L.getD i (pureR True)) w := by
  refine h.perm ?_
  have e : L = (List.range L.length).map fun i => L.getD i (pureR True) := by
    refine List.ext_getElem? fun i => ?_
    rw [List.getElem?_map]
    by_cases hi : i < L.length
    · rw [List.getElem?_range hi]; simp [List.getD, hi]
    · rw [List.getElem?_eq_none (by omega), List.getElem?_eq_none (by simp; omega)]; rfl
  exact (by rw [← e] : L.Perm ((List.range L.length).map fun i => L.getD i (pureR True))).trans (hp.map _)
theorem Mem.mapIns {B mb : Nat} {es es' : List (Int × Value)} {L : List Res} {i : Nat} {w0 w w' : World} (h : Mem B w0 L w) (hi : L[i]? = some (mapR mb es)) (m : MapAt8 w' mb es') (c : Ch (fun b => b = mb) w w') : Mem B w0 (L.set i (mapR mb es')) w' :=
  h.upd (mapR mb es') hi c (fun _ _ e => e) m (fun _ e => .inl e)
structure Ps where
  r : ByteArray
  o : List UInt8
  g : List UInt8
  u : List UInt8
def pstep (st : Ps) (p : Pc) : Ps :=
  if p.k = 1 then ⟨st.r.extract p.n.toNat st.r.size, st.o ++ (st.r.extract 0 p.n.toNat).data.toList, st.g, st.u⟩
  else if p.k = 3 then ⟨st.r.extract p.n.toNat st.r.size, st.o, st.g ++ (st.r.extract 0 p.n.toNat).data.toList, st.u⟩
  else ⟨st.r, st.o ++ p.s.data.toList, st.g, st.u ++ p.s.data.toList⟩
theorem ext_take (r : ByteArray) (n : Nat) : (r.extract 0 n).data.toList = r.data.toList.take n := by
  simp [ByteArray.data_extract]
theorem ext_drop (r : ByteArray) (n : Nat) : (r.extract n r.size).data.toList = r.data.toList.drop n := by
  simp only [ByteArray.data_extract, Array.toList_extract]
  rw [List.extract_eq_drop_take', show r.size = r.data.toList.length from (Dl.size_list _).symm, List.take_length]
/-- What parts puts out is the text of the delta. -/
theorem prun_text (S : List UInt8) : ∀ (d : List Pc) (st : Ps) (i : Nat), Dl.OkL d → st.r.data.toList = S.drop i → i + Dl.inl d ≤ S.length → (d.foldl pstep st).o = st.o ++ Dl.text S (Dl.atoms i d)
  | [], st, i, _, _, _ => by simp [Dl.atoms, Dl.text]
  | p :: d, st, i, h, hr, hi => by
    have hp := h.cons.1
    have h0 := hp.inn0
    have h1 := Dl.inl_nn h.cons.2
    unfold Dl.inl Dl.inn at hi
    unfold Dl.inn at h0
    obtain ⟨n, hn⟩ : ∃ n : Nat, p.n = n := ⟨p.n.toNat, by omega⟩
    have hn2 : p.n.toNat = n := by omega
    rw [List.foldl_cons]
    unfold Dl.atoms
    rw [Dl.text_app, ← List.append_assoc]
    have e1 : (i : Int) + p.n = ((i + n : Nat) : Int) := by omega
    rw [e1]
    rcases hp.kind with hk | hk | hk
    · have hb : Dl.bytes p = [] := Dl.bytes_nil (by rcases hp with ⟨_, _, h⟩ | ⟨h, _⟩; exact h; omega)
      have e2 : (pstep st p).o = st.o ++ Dl.text S (Dl.atom1 i p) := by
        unfold pstep Dl.atom1
        rw [if_pos hk, if_pos hk, hb]
        simp only [List.map_nil, List.nil_append]
        rw [hn2, ext_take, hr, Dl.text_ups S n i (by omega) (by omega)]
        simp
      rw [prun_text S d (pstep st p) (i + n) h.cons.2 (by unfold pstep; rw [if_pos hk]; simp only; rw [hn2, ext_drop, hr, List.drop_drop]) (by push_cast; omega), e2]
    · have h2 : p.n = 0 := by rcases hp with ⟨_, _, h⟩ | ⟨_, h, _⟩; omega; exact h
      have hn0 : n = 0 := by omega
      have e2 : (pstep st p).o = st.o ++ Dl.text S (Dl.atom1 i p) := by
        unfold pstep Dl.atom1
        rw [if_neg (by omega), if_neg (by omega), if_neg (by omega), List.append_nil, Dl.text_negs]
        rfl
      rw [prun_text S d (pstep st p) (i + n) h.cons.2 (by unfold pstep; rw [if_neg (by omega), if_neg (by omega)]; simp only; rw [hr, hn0]; rfl) (by push_cast; omega), e2]
    · have hb : Dl.bytes p = [] := Dl.bytes_nil (by rcases hp with ⟨_, _, h⟩ | ⟨h, _⟩; exact h; omega)
      have e2 : (pstep st p).o = st.o ++ Dl.text S (Dl.atom1 i p) := by
        unfold pstep Dl.atom1
        rw [if_neg (by omega), if_pos hk, if_neg (by omega), hb]
        simp [Dl.text]
      rw [prun_text S d (pstep st p) (i + n) h.cons.2 (by unfold pstep; rw [if_neg (by omega), if_pos hk]; simp only; rw [hn2, ext_drop, hr, List.drop_drop]) (by push_cast; omega), e2]
def BZ : Obj := .cells #[.pointer none, .slice none 0 0] 279
def ptL (B sb ob gb pb fb mb : Nat) (es : List (Int × Value)) (ou gu pu : Bool) (ov gv pv : Value) (st : Ps) : List Res :=
  [blkR sb 9 #[.string st.r], bldR B ob ou ov st.o, blkR fb 280 #[takeV sb], bldR B gb gu gv st.g, bldR B pb pu pv st.u, mapR mb es]
theorem parts_mem (w : World) (s : ByteArray) : Mem w.heap.size w (ptL w.heap.size w.heap.size (w.heap.size + 1) (w.heap.size + 1 + 1) (w.heap.size + 1 + 1 + 1) (w.heap.size + 1 + 1 + 1 + 1) (w.heap.size + 1 + 1 + 1 + 1 + 1) [] false false false (.slice none 0 0) (.slice none 0 0) (.slice none 0 0) ⟨s, [], [], []⟩) (((((((w.alloc (.cells #[.string s] 9)).alloc BZ).alloc BZ).alloc BZ).alloc (.cells #[takeV w.heap.size] 280)).alloc (.map #[] 0))) := by
  have m1 := Mem.cons (Mem.nil (Nat.le_refl _) (Below.refl _ w)) (blkR w.heap.size 9 #[.string s]) ((Ch.refl _ _).alloc _) (Blk.new w 9 #[.string s]) (fun k e => Nat.le_of_eq e.symm)
  have bl : ∀ (W : World) (b : Nat), b = W.heap.size → w.heap.size ≤ b → BldM w.heap.size (W.alloc BZ) b false (.slice none 0 0) [] := fun W b e h => by subst e; exact BldM.new W h
  have bf : ∀ (W : World) (b : Nat), b = W.heap.size → ∀ k, (bldR w.heap.size b false (.slice none 0 0) []).foot k → W.heap.size ≤ k := fun W b e k hk => by
    rcases hk with hk | hk
    · rw [hk, e]; exact Nat.le_refl _
    · cases hk
  have m2 := Mem.cons m1 (bldR w.heap.size (w.heap.size + 1) false (.slice none 0 0) []) ((Ch.refl _ _).alloc BZ) (bl _ _ (by simp) (by omega)) (bf _ _ (by simp))
  have m3 := Mem.cons m2 (bldR w.heap.size (w.heap.size + 1 + 1) false (.slice none 0 0) []) ((Ch.refl _ _).alloc BZ) (bl _ _ (by simp) (by omega)) (bf _ _ (by simp))
  have m4 := Mem.cons m3 (bldR w.heap.size (w.heap.size + 1 + 1 + 1) false (.slice none 0 0) []) ((Ch.refl _ _).alloc BZ) (bl _ _ (by simp) (by omega)) (bf _ _ (by simp))
  have m5 := Mem.cons m4 (blkR (w.heap.size + 1 + 1 + 1 + 1) 280 #[takeV w.heap.size]) ((Ch.refl _ _).alloc _) (by
    have t := Blk.new ((((w.alloc (.cells #[.string s] 9)).alloc BZ).alloc BZ).alloc BZ) 280 #[takeV w.heap.size]
    show Blk _ _ _ _
    simpa using t) (fun k e => by rw [e]; simp)
  have m6 := Mem.cons m5 (mapR (w.heap.size + 1 + 1 + 1 + 1 + 1) []) ((Ch.refl _ _).alloc (.map #[] 0)) (by
    have t := MapAt8.new (((((w.alloc (.cells #[.string s] 9)).alloc BZ).alloc BZ).alloc BZ).alloc (.cells #[takeV w.heap.size] 280))
    show MapAt8 _ _ _
    simpa using t) (fun k e => by rw [e]; simp)
  exact Mem.permI [5, 4, 1, 3, 2, 0] m6 (show (List.range 6).Perm [5, 4, 1, 3, 2, 0] by decide)
set_option maxRecDepth 100000 in
set_option maxHeartbeats 4000000 in
theorem parts_any (s : ByteArray) (a : Option Addr) (n c : Nat) (xs : List Pc) (w : World) (ha : InPc w a n xs) (hok : Dl.OkL xs) (hi : Dl.inl xs = s.size) (hs : s.size ≤ 2000000) (ho : Dl.oul xs ≤ 2000000) :
    Calls Tryz.prog 103 #[.string s, .slice a n c] w fun e w' => ∃ r1 r2, e = .returned (.tuple #[.string ⟨(Dl.text s.data.toList (Dl.atoms 0 xs)).toArray⟩, .string r1, .string r2]) ∧ Ch (fun _ => False) w w' := by
  have hmm := @run_makeMap Tryz.prog
  have HTX := hid (show (xs.foldl pstep ⟨s, [], [], []⟩).o = Dl.text s.data.toList (Dl.atoms 0 xs) from by
    have t := prun_text s.data.toList xs ⟨s, [], [], []⟩ 0 hok (by simp) (by rw [Dl.size_list]; omega)
    simpa using t)
  obtain ⟨T, hT⟩ : ∃ T, T = Dl.text s.data.toList (Dl.atoms 0 xs) := ⟨_, rfl⟩
  rw [← hT] at HTX ⊢
  have M0 := hid (parts_mem w s)
  have HA := hid ha
  have HL := hid ha.1
  have HOK := hid hok
  have HI := hid (show Dl.inl xs = s.size ∧ s.size ≤ 2000000 ∧ Dl.oul xs ≤ 2000000 from ⟨hi, hs, ho⟩)
  have hn : n ≤ 5000000 := by have := Dl.len_le hok; rw [ha.1] at this; omega
  clear ha hok hi hs ho hT
  go_enter Tryz.func103, Tryz.ntmps103
  go_wp2_with (first | (refine wpList_insert_u8 rfl _ _ _ 285 rfl _ _ Tryz.underlying285 Tryz.underlying5 (w.heap.size + 1 + 1 + 1 + 1 + 1) [] (M0.out.each 5 _ rfl) 1 (.func (.func 146) #[] #[.pointer (some ⟨w.heap.size + 1, 0, none⟩), .pointer (some ⟨w.heap.size + 1 + 1 + 1 + 1, 0, none⟩)]) rfl rfl rfl rfl ?_; intro w1 m1 c1; have M1 := hid (show Mem w.heap.size w (ptL w.heap.size (w.heap.size) (w.heap.size + 1) (w.heap.size + 1 + 1) (w.heap.size + 1 + 1 + 1) (w.heap.size + 1 + 1 + 1 + 1) (w.heap.size + 1 + 1 + 1 + 1 + 1) [(1, .func (.func 146) #[] #[.pointer (some ⟨w.heap.size + 1, 0, none⟩), .pointer (some ⟨w.heap.size + 1 + 1 + 1 + 1, 0, none⟩)])] false false false (.slice none 0 0) (.slice none 0 0) (.slice none 0 0) ⟨s, [], [], []⟩) w1 from M0.out.mapIns (i := 5) rfl m1 c1); clear m1 c1 M0) | (refine wpList_insert_u8 rfl _ _ _ 285 rfl _ _ Tryz.underlying285 Tryz.underlying5 (w.heap.size + 1 + 1 + 1 + 1 + 1) [(1, .func (.func 146) #[] #[.pointer (some ⟨w.heap.size + 1, 0, none⟩), .pointer (some ⟨w.heap.size + 1 + 1 + 1 + 1, 0, none⟩)])] (M1.out.each 5 _ rfl) 3 (.func (.func 148) #[] #[.pointer (some ⟨w.heap.size + 1 + 1, 0, none⟩), .pointer (some ⟨w.heap.size + 1 + 1 + 1 + 1, 0, none⟩)]) rfl rfl rfl rfl ?_; intro w2 m2 c2; have M2 := hid (show Mem w.heap.size w (ptL w.heap.size (w.heap.size) (w.heap.size + 1) (w.heap.size + 1 + 1) (w.heap.size + 1 + 1 + 1) (w.heap.size + 1 + 1 + 1 + 1) (w.heap.size + 1 + 1 + 1 + 1 + 1) [(1, .func (.func 146) #[] #[.pointer (some ⟨w.heap.size + 1, 0, none⟩), .pointer (some ⟨w.heap.size + 1 + 1 + 1 + 1, 0, none⟩)]), (3, .func (.func 148) #[] #[.pointer (some ⟨w.heap.size + 1 + 1, 0, none⟩), .pointer (some ⟨w.heap.size + 1 + 1 + 1 + 1, 0, none⟩)])] false false false (.slice none 0 0) (.slice none 0 0) (.slice none 0 0) ⟨s, [], [], []⟩) w2 from M1.out.mapIns (i := 5) rfl m2 c2); clear m2 c2 M1) | (refine wpList_insert_u8 rfl _ _ _ 285 rfl _ _ Tryz.underlying285 Tryz.underlying5 (w.heap.size + 1 + 1 + 1 + 1 + 1) [(1, .func (.func 146) #[] #[.pointer (some ⟨w.heap.size + 1, 0, none⟩), .pointer (some ⟨w.heap.size + 1 + 1 + 1 + 1, 0, none⟩)]), (3, .func (.func 148) #[] #[.pointer (some ⟨w.heap.size + 1 + 1, 0, none⟩), .pointer (some ⟨w.heap.size + 1 + 1 + 1 + 1, 0, none⟩)])] (M2.out.each 5 _ rfl) 2 (.func (.func 149) #[] #[.pointer (some ⟨w.heap.size + 1, 0, none⟩), .pointer (some ⟨w.heap.size + 1 + 1 + 1, 0, none⟩)]) rfl rfl rfl rfl ?_; intro w3 m3 c3; have M3 := hid (show Mem w.heap.size w (ptL w.heap.size (w.heap.size) (w.heap.size + 1) (w.heap.size + 1 + 1) (w.heap.size + 1 + 1 + 1) (w.heap.size + 1 + 1 + 1 + 1) (w.heap.size + 1 + 1 + 1 + 1 + 1) [(1, .func (.func 146) #[] #[.pointer (some ⟨w.heap.size + 1, 0, none⟩), .pointer (some ⟨w.heap.size + 1 + 1 + 1 + 1, 0, none⟩)]), (3, .func (.func 148) #[] #[.pointer (some ⟨w.heap.size + 1 + 1, 0, none⟩), .pointer (some ⟨w.heap.size + 1 + 1 + 1 + 1, 0, none⟩)]), (2, .func (.func 149) #[] #[.pointer (some ⟨w.heap.size + 1, 0, none⟩), .pointer (some ⟨w.heap.size + 1 + 1 + 1, 0, none⟩)])] false false false (.slice none 0 0) (.slice none 0 0) (.slice none 0 0) ⟨s, [], [], []⟩) w3 from M2.out.mapIns (i := 5) rfl m3 c3); clear m3 c3 M2) | fail)
  go_loopw [22] (fun i W => ∃ (k : Nat) (ou gu pu : Bool) (ov gv pv : Value) (st : Ps), k ≤ n ∧ i = .int .i64 (k : Int) ∧ Mem w.heap.size w (ptL w.heap.size (w.heap.size) (w.heap.size + 1) (w.heap.size + 1 + 1) (w.heap.size + 1 + 1 + 1) (w.heap.size + 1 + 1 + 1 + 1) (w.heap.size + 1 + 1 + 1 + 1 + 1) [(1, .func (.func 146) #[] #[.pointer (some ⟨w.heap.size + 1, 0, none⟩), .pointer (some ⟨w.heap.size + 1 + 1 + 1 + 1, 0, none⟩)]), (3, .func (.func 148) #[] #[.pointer (some ⟨w.heap.size + 1 + 1, 0, none⟩), .pointer (some ⟨w.heap.size + 1 + 1 + 1 + 1, 0, none⟩)]), (2, .func (.func 149) #[] #[.pointer (some ⟨w.heap.size + 1, 0, none⟩), .pointer (some ⟨w.heap.size + 1 + 1 + 1, 0, none⟩)])] ou gu pu (ov) (gv) (pv) st) W ∧ (xs.drop k).foldl pstep st = xs.foldl pstep ⟨s, [], [], []⟩ ∧ Dl.inl (xs.drop k) = st.r.size ∧ st.o.length + Dl.oul (xs.drop k) ≤ 2000000 ∧ st.g.length + Dl.inl (xs.drop k) ≤ 2000000 ∧ st.u.length + Dl.oul (xs.drop k) ≤ 2000000) (fun i _ => n - (intOf i).toNat)
  case atStart => exact ⟨0, false, false, false, .slice none 0 0, .slice none 0 0, .slice none 0 0, ⟨s, [], [], []⟩, Nat.zero_le _, rfl, M3.out, rfl, HI.out.1, by have := HI.out; simp; omega, by have := HI.out; simp; omega, by have := HI.out; simp; omega⟩
  case round =>
    obtain ⟨k, ou, gu, pu, ov, gv, pv, st, hk0, rfl, hm, hfl, hn1, hn2, hn3, hn4⟩ := hrel
    have M4 := hid hm
    have HFL := hid hfl
    have HN4 := hid (And.intro hn1 (And.intro hn2 (And.intro hn3 hn4)))
    clear hm hfl hn1 hn2 hn3 hn4
    by_cases hlt : k < n
    · have d1 : decide ((k : Int) < (n : Int)) = true := decide_eq_true (by omega)
      have d2 : decide (k < n) = true := decide_eq_true hlt
      obtain ⟨p, hp⟩ : ∃ p, xs[k]? = some p := ⟨xs[k]'(by rw [HL.out]; exact hlt), List.getElem?_eq_getElem _⟩
      obtain ⟨b, off, hab, hbl, hcell⟩ := HA.out.2 (by omega)
      subst hab
      have hC : Ch (fun _ => False) w wr := ⟨M4.out.bel.os, M4.out.bel.tape, M4.out.bel.output, M4.out.bel.size, fun k hk _ => M4.out.bel.block k hk⟩
      have hcc : ∀ j v, p.cells[j]? = some v → wr.cell? ⟨b, off + (k * 3 + j), none⟩ = some v := fun j v hv => (hC.cell (p := ⟨b, off + (k * 3 + j), none⟩) hbl id).trans (hcell k j p v hp hv)
      have c0 : wr.cell? ⟨b, off + k * 3, none⟩ = some (.int .u8 p.k) := hcc 0 _ rfl
      have c1 : wr.cell? ⟨b, off + k * 3 + 1, none⟩ = some (.int .i64 p.n) := hcc 1 _ rfl
      have c2 : wr.cell? ⟨b, off + k * 3 + 2, none⟩ = some (.string p.s) := hcc 2 _ rfl
      have HDR := hid (show xs.drop k = p :: xs.drop (k + 1) from by
        obtain ⟨h1, h2⟩ := List.getElem?_eq_some_iff.1 hp
        rw [List.drop_eq_getElem_cons h1, h2])
      have HP := hid (show Dl.OkL (xs.drop (k + 1)) ∧ Dl.Ok p from ⟨fun x hx => HOK.out x (List.mem_of_mem_drop hx), HOK.out p (List.mem_of_getElem? hp)⟩)
      clear hcell hcc hp hbl hC
      rcases HP.out.2.kind with hk | hk | hk
      · skip
        obtain ⟨q, hq⟩ : ∃ q : Nat, p.n = q := ⟨p.n.toNat, by have := HP.out.2.inn0; unfold Dl.inn at this; omega⟩
        have HPS := hid (show ⟨st.r.extract q st.r.size, st.o ++ (st.r.extract 0 q).data.toList, st.g, st.u⟩ = pstep st p from by unfold pstep; rw [if_pos hk, hq]; simp)
        have hos : p.s.size = 0 := by rcases HP.out.2 with ⟨_, _, h⟩ | ⟨h, _⟩; exact h; omega
        have HNU := hid (show Dl.inl (xs.drop (k + 1)) = (⟨st.r.extract q st.r.size, st.o ++ (st.r.extract 0 q).data.toList, st.g, st.u⟩ : Ps).r.size ∧ (⟨st.r.extract q st.r.size, st.o ++ (st.r.extract 0 q).data.toList, st.g, st.u⟩ : Ps).o.length + Dl.oul (xs.drop (k + 1)) ≤ 2000000 ∧ (⟨st.r.extract q st.r.size, st.o ++ (st.r.extract 0 q).data.toList, st.g, st.u⟩ : Ps).g.length + Dl.inl (xs.drop (k + 1)) ≤ 2000000 ∧ (⟨st.r.extract q st.r.size, st.o ++ (st.r.extract 0 q).data.toList, st.g, st.u⟩ : Ps).u.length + Dl.oul (xs.drop (k + 1)) ≤ 2000000 from by
          obtain ⟨t1, t2, t3, t4⟩ := HN4.out
          rw [HDR.out] at t1 t2 t3 t4
          have s1 := Dl.inl_nn HP.out.1
          have s2 := Dl.oul_nn HP.out.1
          unfold Dl.inl Dl.inn at t1 t3
          unfold Dl.oul Dl.oun at t2 t4
          rw [hq, hos] at *
          have e1 : (st.r.extract q st.r.size).size = st.r.size - q := by rw [Dl.size_extract]; omega
          have e2 : (st.r.extract 0 q).data.toList.length = min q st.r.size := by rw [Dl.size_list, Dl.size_extract]; omega
          simp only [List.length_append, e1, e2]
          rw [if_pos hk] at t2 t4
          omega)
        have hqr : q ≤ st.r.size := by
          have t1 := HN4.out.1
          rw [HDR.out] at t1
          have s1 := Dl.inl_nn HP.out.1
          unfold Dl.inl Dl.inn at t1
          omega
        have hll : st.o.length ≤ 100000000 ∧ st.r.size ≤ 100000000 := by
          obtain ⟨t1, t2, t3, t4⟩ := HN4.out
          rw [HDR.out] at t1 t2 t3 t4
          have s1 := Dl.inl_nn HP.out.1
          have s2 := Dl.oul_nn HP.out.1
          have s3 := HP.out.2.inn0
          have s4 := HP.out.2.oun0
          unfold Dl.inl at t1 t3
          unfold Dl.oul at t2 t4
          constructor <;> omega
        rw [hk] at c0
        rw [hq] at c1
        have HQ := hid hq
        clear hq hos hk
        go_wp2_with (first | (refine wpList_lookup_u8 rfl _ _ 285 rfl _ _ Tryz.underlying285 Tryz.underlying5 (w.heap.size + 1 + 1 + 1 + 1 + 1) [(1, .func (.func 146) #[] #[.pointer (some ⟨w.heap.size + 1, 0, none⟩), .pointer (some ⟨w.heap.size + 1 + 1 + 1 + 1, 0, none⟩)]), (3, .func (.func 148) #[] #[.pointer (some ⟨w.heap.size + 1 + 1, 0, none⟩), .pointer (some ⟨w.heap.size + 1 + 1 + 1 + 1, 0, none⟩)]), (2, .func (.func 149) #[] #[.pointer (some ⟨w.heap.size + 1, 0, none⟩), .pointer (some ⟨w.heap.size + 1 + 1 + 1, 0, none⟩)])] ((M4.out.alloc _).each 5 _ rfl) 1 .nilFunc (by kernel_rfl) rfl rfl (.func (.func 146) #[] #[.pointer (some ⟨w.heap.size + 1, 0, none⟩), .pointer (some ⟨w.heap.size + 1 + 1 + 1 + 1, 0, none⟩)]) rfl ?_) | fail)
        refine (parts2_any w.heap.size (w.heap.size) (w.heap.size + 1) (w.heap.size + 1 + 1 + 1 + 1) ou ov st.o st.r 1 q p.s [bldR w.heap.size (w.heap.size + 1 + 1) gu gv st.g, bldR w.heap.size (w.heap.size + 1 + 1 + 1) pu pv st.u, mapR (w.heap.size + 1 + 1 + 1 + 1 + 1) [(1, .func (.func 146) #[] #[.pointer (some ⟨w.heap.size + 1, 0, none⟩), .pointer (some ⟨w.heap.size + 1 + 1 + 1 + 1, 0, none⟩)]), (3, .func (.func 148) #[] #[.pointer (some ⟨w.heap.size + 1 + 1, 0, none⟩), .pointer (some ⟨w.heap.size + 1 + 1 + 1 + 1, 0, none⟩)]), (2, .func (.func 149) #[] #[.pointer (some ⟨w.heap.size + 1, 0, none⟩), .pointer (some ⟨w.heap.size + 1 + 1 + 1, 0, none⟩)])]] w _ (M4.out.alloc _) hqr hll.1 hll.2).mono ?_
        rintro e w6 ⟨rfl, v', hm⟩
        have M6 := hid (show Mem w.heap.size w (ptL w.heap.size (w.heap.size) (w.heap.size + 1) (w.heap.size + 1 + 1) (w.heap.size + 1 + 1 + 1) (w.heap.size + 1 + 1 + 1 + 1) (w.heap.size + 1 + 1 + 1 + 1 + 1) [(1, .func (.func 146) #[] #[.pointer (some ⟨w.heap.size + 1, 0, none⟩), .pointer (some ⟨w.heap.size + 1 + 1 + 1 + 1, 0, none⟩)]), (3, .func (.func 148) #[] #[.pointer (some ⟨w.heap.size + 1 + 1, 0, none⟩), .pointer (some ⟨w.heap.size + 1 + 1 + 1 + 1, 0, none⟩)]), (2, .func (.func 149) #[] #[.pointer (some ⟨w.heap.size + 1, 0, none⟩), .pointer (some ⟨w.heap.size + 1 + 1 + 1, 0, none⟩)])] true gu pu (v') (gv) (pv) ⟨st.r.extract q st.r.size, st.o ++ (st.r.extract 0 q).data.toList, st.g, st.u⟩) w6 from hm)
        clear hm c0 c1 c2
        go_wp2_with fail
        go_roundw
        case rel => exact ⟨k + 1, true, gu, pu, v', gv, pv, ⟨st.r.extract q st.r.size, st.o ++ (st.r.extract 0 q).data.toList, st.g, st.u⟩, hlt, by go_num, M6.out, by rw [← HFL.out, HDR.out, List.foldl_cons, ← HPS.out], HNU.out.1, HNU.out.2.1, HNU.out.2.2.1, HNU.out.2.2.2⟩
        case measure => simp [intOf]; omega
      · skip
        have HPS := hid (show ⟨st.r, st.o ++ p.s.data.toList, st.g, st.u ++ p.s.data.toList⟩ = pstep st p from by unfold pstep; rw [if_neg (by omega), if_neg (by omega)])
        have hon : p.n = 0 := by rcases HP.out.2 with ⟨h, _⟩ | ⟨_, h, _⟩; omega; exact h
        have HNU := hid (show Dl.inl (xs.drop (k + 1)) = (⟨st.r, st.o ++ p.s.data.toList, st.g, st.u ++ p.s.data.toList⟩ : Ps).r.size ∧ (⟨st.r, st.o ++ p.s.data.toList, st.g, st.u ++ p.s.data.toList⟩ : Ps).o.length + Dl.oul (xs.drop (k + 1)) ≤ 2000000 ∧ (⟨st.r, st.o ++ p.s.data.toList, st.g, st.u ++ p.s.data.toList⟩ : Ps).g.length + Dl.inl (xs.drop (k + 1)) ≤ 2000000 ∧ (⟨st.r, st.o ++ p.s.data.toList, st.g, st.u ++ p.s.data.toList⟩ : Ps).u.length + Dl.oul (xs.drop (k + 1)) ≤ 2000000 from by
          obtain ⟨t1, t2, t3, t4⟩ := HN4.out
          rw [HDR.out] at t1 t2 t3 t4
          unfold Dl.inl Dl.inn at t1 t3
          unfold Dl.oul Dl.oun at t2 t4
          rw [if_neg (by omega)] at t2 t4
          simp only [List.length_append, Dl.size_list]
          omega)
        have hll : st.o.length ≤ 100000000 ∧ st.u.length ≤ 100000000 ∧ p.s.size ≤ 100000000 := by
          obtain ⟨t1, t2, t3, t4⟩ := HN4.out
          rw [HDR.out] at t1 t2 t3 t4
          have s1 := Dl.inl_nn HP.out.1
          have s2 := Dl.oul_nn HP.out.1
          unfold Dl.oul Dl.oun at t2 t4
          rw [if_neg (by omega)] at t2 t4
          refine ⟨?_, ?_, ?_⟩ <;> omega
        rw [hk] at c0
        clear hon hk
        go_wp2_with (first | (refine wpList_lookup_u8 rfl _ _ 285 rfl _ _ Tryz.underlying285 Tryz.underlying5 (w.heap.size + 1 + 1 + 1 + 1 + 1) [(1, .func (.func 146) #[] #[.pointer (some ⟨w.heap.size + 1, 0, none⟩), .pointer (some ⟨w.heap.size + 1 + 1 + 1 + 1, 0, none⟩)]), (3, .func (.func 148) #[] #[.pointer (some ⟨w.heap.size + 1 + 1, 0, none⟩), .pointer (some ⟨w.heap.size + 1 + 1 + 1 + 1, 0, none⟩)]), (2, .func (.func 149) #[] #[.pointer (some ⟨w.heap.size + 1, 0, none⟩), .pointer (some ⟨w.heap.size + 1 + 1 + 1, 0, none⟩)])] ((M4.out.alloc _).each 5 _ rfl) 2 .nilFunc (by kernel_rfl) rfl rfl (.func (.func 149) #[] #[.pointer (some ⟨w.heap.size + 1, 0, none⟩), .pointer (some ⟨w.heap.size + 1 + 1 + 1, 0, none⟩)]) rfl ?_) | fail)
        refine (parts4_any w.heap.size (w.heap.size + 1) (w.heap.size + 1 + 1 + 1) ou pu ov pv st.o st.u 2 p.n p.s [blkR (w.heap.size) 9 #[.string st.r], blkR (w.heap.size + 1 + 1 + 1 + 1) 280 #[takeV (w.heap.size)], bldR w.heap.size (w.heap.size + 1 + 1) gu gv st.g, mapR (w.heap.size + 1 + 1 + 1 + 1 + 1) [(1, .func (.func 146) #[] #[.pointer (some ⟨w.heap.size + 1, 0, none⟩), .pointer (some ⟨w.heap.size + 1 + 1 + 1 + 1, 0, none⟩)]), (3, .func (.func 148) #[] #[.pointer (some ⟨w.heap.size + 1 + 1, 0, none⟩), .pointer (some ⟨w.heap.size + 1 + 1 + 1 + 1, 0, none⟩)]), (2, .func (.func 149) #[] #[.pointer (some ⟨w.heap.size + 1, 0, none⟩), .pointer (some ⟨w.heap.size + 1 + 1 + 1, 0, none⟩)])]] w _ (Mem.permI [1, 4, 0, 2, 3, 5] (M4.out.alloc _) (show (List.range 6).Perm [1, 4, 0, 2, 3, 5] by decide)) hll.1 hll.2.1 hll.2.2).mono ?_
        rintro e w6 ⟨rfl, v', v2', hm⟩
        have M6 := hid (show Mem w.heap.size w (ptL w.heap.size (w.heap.size) (w.heap.size + 1) (w.heap.size + 1 + 1) (w.heap.size + 1 + 1 + 1) (w.heap.size + 1 + 1 + 1 + 1) (w.heap.size + 1 + 1 + 1 + 1 + 1) [(1, .func (.func 146) #[] #[.pointer (some ⟨w.heap.size + 1, 0, none⟩), .pointer (some ⟨w.heap.size + 1 + 1 + 1 + 1, 0, none⟩)]), (3, .func (.func 148) #[] #[.pointer (some ⟨w.heap.size + 1 + 1, 0, none⟩), .pointer (some ⟨w.heap.size + 1 + 1 + 1 + 1, 0, none⟩)]), (2, .func (.func 149) #[] #[.pointer (some ⟨w.heap.size + 1, 0, none⟩), .pointer (some ⟨w.heap.size + 1 + 1 + 1, 0, none⟩)])] true gu true (v') (gv) (v2') ⟨st.r, st.o ++ p.s.data.toList, st.g, st.u ++ p.s.data.toList⟩) w6 from (Mem.permI [2, 0, 3, 4, 1, 5] hm (show (List.range 6).Perm [2, 0, 3, 4, 1, 5] by decide)))
        clear hm c0 c1 c2
        go_wp2_with fail
        go_roundw
        case rel => exact ⟨k + 1, true, gu, true, v', gv, v2', ⟨st.r, st.o ++ p.s.data.toList, st.g, st.u ++ p.s.data.toList⟩, hlt, by go_num, M6.out, by rw [← HFL.out, HDR.out, List.foldl_cons, ← HPS.out], HNU.out.1, HNU.out.2.1, HNU.out.2.2.1, HNU.out.2.2.2⟩
        case measure => simp [intOf]; omega
      · skip
        obtain ⟨q, hq⟩ : ∃ q : Nat, p.n = q := ⟨p.n.toNat, by have := HP.out.2.inn0; unfold Dl.inn at this; omega⟩
        have HPS := hid (show ⟨st.r.extract q st.r.size, st.o, st.g ++ (st.r.extract 0 q).data.toList, st.u⟩ = pstep st p from by unfold pstep; rw [if_neg (by omega), if_pos hk, hq]; simp)
        have hos : p.s.size = 0 := by rcases HP.out.2 with ⟨_, _, h⟩ | ⟨h, _⟩; exact h; omega
        have HNU := hid (show Dl.inl (xs.drop (k + 1)) = (⟨st.r.extract q st.r.size, st.o, st.g ++ (st.r.extract 0 q).data.toList, st.u⟩ : Ps).r.size ∧ (⟨st.r.extract q st.r.size, st.o, st.g ++ (st.r.extract 0 q).data.toList, st.u⟩ : Ps).o.length + Dl.oul (xs.drop (k + 1)) ≤ 2000000 ∧ (⟨st.r.extract q st.r.size, st.o, st.g ++ (st.r.extract 0 q).data.toList, st.u⟩ : Ps).g.length + Dl.inl (xs.drop (k + 1)) ≤ 2000000 ∧ (⟨st.r.extract q st.r.size, st.o, st.g ++ (st.r.extract 0 q).data.toList, st.u⟩ : Ps).u.length + Dl.oul (xs.drop (k + 1)) ≤ 2000000 from by
          obtain ⟨t1, t2, t3, t4⟩ := HN4.out
          rw [HDR.out] at t1 t2 t3 t4
          have s1 := Dl.inl_nn HP.out.1
          have s2 := Dl.oul_nn HP.out.1
          unfold Dl.inl Dl.inn at t1 t3
          unfold Dl.oul Dl.oun at t2 t4
          rw [hq, hos] at *
          have e1 : (st.r.extract q st.r.size).size = st.r.size - q := by rw [Dl.size_extract]; omega
          have e2 : (st.r.extract 0 q).data.toList.length = min q st.r.size := by rw [Dl.size_list, Dl.size_extract]; omega
          simp only [List.length_append, e1, e2]
          rw [if_neg (by omega)] at t2 t4
          omega)
        have hqr : q ≤ st.r.size := by
          have t1 := HN4.out.1
          rw [HDR.out] at t1
          have s1 := Dl.inl_nn HP.out.1
          unfold Dl.inl Dl.inn at t1
          omega
        have hll : st.g.length ≤ 100000000 ∧ st.r.size ≤ 100000000 := by
          obtain ⟨t1, t2, t3, t4⟩ := HN4.out
          rw [HDR.out] at t1 t2 t3 t4
          have s1 := Dl.inl_nn HP.out.1
          have s2 := Dl.oul_nn HP.out.1
          have s3 := HP.out.2.inn0
          have s4 := HP.out.2.oun0
          unfold Dl.inl at t1 t3
          unfold Dl.oul at t2 t4
          constructor <;> omega
        rw [hk] at c0
        rw [hq] at c1
        have HQ := hid hq
        clear hq hos hk
        go_wp2_with (first | (refine wpList_lookup_u8 rfl _ _ 285 rfl _ _ Tryz.underlying285 Tryz.underlying5 (w.heap.size + 1 + 1 + 1 + 1 + 1) [(1, .func (.func 146) #[] #[.pointer (some ⟨w.heap.size + 1, 0, none⟩), .pointer (some ⟨w.heap.size + 1 + 1 + 1 + 1, 0, none⟩)]), (3, .func (.func 148) #[] #[.pointer (some ⟨w.heap.size + 1 + 1, 0, none⟩), .pointer (some ⟨w.heap.size + 1 + 1 + 1 + 1, 0, none⟩)]), (2, .func (.func 149) #[] #[.pointer (some ⟨w.heap.size + 1, 0, none⟩), .pointer (some ⟨w.heap.size + 1 + 1 + 1, 0, none⟩)])] ((M4.out.alloc _).each 5 _ rfl) 3 .nilFunc (by kernel_rfl) rfl rfl (.func (.func 148) #[] #[.pointer (some ⟨w.heap.size + 1 + 1, 0, none⟩), .pointer (some ⟨w.heap.size + 1 + 1 + 1 + 1, 0, none⟩)]) rfl ?_) | fail)
        refine (parts3_any w.heap.size (w.heap.size) (w.heap.size + 1 + 1) (w.heap.size + 1 + 1 + 1 + 1) gu gv st.g st.r 3 q p.s [bldR w.heap.size (w.heap.size + 1) ou ov st.o, bldR w.heap.size (w.heap.size + 1 + 1 + 1) pu pv st.u, mapR (w.heap.size + 1 + 1 + 1 + 1 + 1) [(1, .func (.func 146) #[] #[.pointer (some ⟨w.heap.size + 1, 0, none⟩), .pointer (some ⟨w.heap.size + 1 + 1 + 1 + 1, 0, none⟩)]), (3, .func (.func 148) #[] #[.pointer (some ⟨w.heap.size + 1 + 1, 0, none⟩), .pointer (some ⟨w.heap.size + 1 + 1 + 1 + 1, 0, none⟩)]), (2, .func (.func 149) #[] #[.pointer (some ⟨w.heap.size + 1, 0, none⟩), .pointer (some ⟨w.heap.size + 1 + 1 + 1, 0, none⟩)])]] w _ (Mem.permI [0, 3, 2, 1, 4, 5] (M4.out.alloc _) (show (List.range 6).Perm [0, 3, 2, 1, 4, 5] by decide)) hqr hll.1 hll.2).mono ?_
        rintro e w6 ⟨rfl, v', hm⟩
        have M6 := hid (show Mem w.heap.size w (ptL w.heap.size (w.heap.size) (w.heap.size + 1) (w.heap.size + 1 + 1) (w.heap.size + 1 + 1 + 1) (w.heap.size + 1 + 1 + 1 + 1) (w.heap.size + 1 + 1 + 1 + 1 + 1) [(1, .func (.func 146) #[] #[.pointer (some ⟨w.heap.size + 1, 0, none⟩), .pointer (some ⟨w.heap.size + 1 + 1 + 1 + 1, 0, none⟩)]), (3, .func (.func 148) #[] #[.pointer (some ⟨w.heap.size + 1 + 1, 0, none⟩), .pointer (some ⟨w.heap.size + 1 + 1 + 1 + 1, 0, none⟩)]), (2, .func (.func 149) #[] #[.pointer (some ⟨w.heap.size + 1, 0, none⟩), .pointer (some ⟨w.heap.size + 1 + 1 + 1, 0, none⟩)])] ou true pu (ov) (v') (pv) ⟨st.r.extract q st.r.size, st.o, st.g ++ (st.r.extract 0 q).data.toList, st.u⟩) w6 from (Mem.permI [0, 3, 2, 1, 4, 5] hm (show (List.range 6).Perm [0, 3, 2, 1, 4, 5] by decide)))
        clear hm c0 c1 c2
        go_wp2_with fail
        go_roundw
        case rel => exact ⟨k + 1, ou, true, pu, ov, v', pv, ⟨st.r.extract q st.r.size, st.o, st.g ++ (st.r.extract 0 q).data.toList, st.u⟩, hlt, by go_num, M6.out, by rw [← HFL.out, HDR.out, List.foldl_cons, ← HPS.out], HNU.out.1, HNU.out.2.1, HNU.out.2.2.1, HNU.out.2.2.2⟩
        case measure => simp [intOf]; omega
    · obtain rfl : k = n := by omega
      have d1 : decide ((k : Int) < (k : Int)) = false := decide_eq_false (by omega)
      have HO := hid (show st.o = T from by
        rw [← HTX.out, ← HFL.out, List.drop_eq_nil_of_le (by rw [HL.out]; exact Nat.le_refl _)]; rfl)
      have hll : st.o.length ≤ 1000000000 ∧ st.g.length ≤ 1000000000 ∧ st.u.length ≤ 1000000000 := by
        obtain ⟨t1, t2, t3, t4⟩ := HN4.out
        rw [List.drop_eq_nil_of_le (by rw [HL.out]; exact Nat.le_refl _)] at *
        unfold Dl.inl at t1 t3
        unfold Dl.oul at t2 t4
        refine ⟨?_, ?_, ?_⟩ <;> omega
      go_wp2_with fail
      refine (bldString_any w.heap.size (w.heap.size + 1) ou ov st.o wr (M4.out.each 1 _ rfl) hll.1).mono ?_
      rintro e w5 ⟨rfl, hc⟩
      have M5 := hid (M4.out.upd (i := 1) (pureR True) rfl hc (fun k _ e => .inr e) trivial (fun k e => e.elim))
      clear hc
      go_wp2_with fail
      refine (bldString_any w.heap.size (w.heap.size + 1 + 1) gu gv st.g w5 (M5.out.each 3 _ rfl) hll.2.1).mono ?_
      rintro e w6 ⟨rfl, hc⟩
      have M6 := hid (M5.out.upd (i := 3) (pureR True) rfl hc (fun k _ e => .inr e) trivial (fun k e => e.elim))
      clear hc
      go_wp2_with fail
      refine (bldString_any w.heap.size (w.heap.size + 1 + 1 + 1) pu pv st.u w6 (M6.out.each 4 _ rfl) hll.2.2).mono ?_
      rintro e w7 ⟨rfl, hc⟩
      have M7 := hid (M6.out.upd (i := 4) (pureR True) rfl hc (fun k _ e => .inr e) trivial (fun k e => e.elim))
      clear hc
      go_wp2_with fail
      go_ret3
      exact ⟨⟨st.g.toArray⟩, ⟨st.u.toArray⟩, by first | rfl | (rw [HO.out]; rfl), M7.out.bel.os, M7.out.bel.tape, M7.out.bel.output, M7.out.bel.size, fun k hk _ => M7.out.bel.block k hk⟩
end Go.Proofs.YtefpabicgefciaaGreat
namespace Go.Proofs.YtefpabicgefciaaGreat
open Go.RowKit
set_option linter.unusedVariables false
set_option linter.unusedSimpArgs false
set_option linter.unusedSectionVars false
set_option maxRecDepth 100000 in
set_option maxHeartbeats 1000000 in
theorem fits_any (s : ByteArray) (a : Option Addr) (n c : Nat) (xs : List Pc) (w : World) (ha : InPc w a n xs) (hz : Dl.chkL xs = 0) (hi : Dl.inl xs = s.size) :
    Calls Tryz.prog 102 #[.string s, .slice a n c] w fun e w' => e = .returned (.int .i64 0) ∧ Ch (fun _ => False) w w' := by
  have LX := hid (show lenR xs = .tuple #[.int .i64 (s.size : Int), .int .i64 (Dl.oul xs), .int .i64 0] from by unfold lenR; rw [if_pos hz, hi])
  have hn : n ≤ 4096 := by rw [← ha.1]; exact (Dl.chkL_zero.1 hz).1
  have HA := hid ha
  clear ha hz hi
  go_enter Tryz.func102, Tryz.ntmps102
  go_wp2_with fail
  refine (lengths_any a n c xs w HA.out (by omega)).mono ?_
  rintro e w1 ⟨rfl, hc1⟩
  rw [LX.out]
  have C1 := hid hc1
  clear hc1
  go_wp2_with fail
  go_ret
  exact ⟨rfl, C1.out⟩
set_option maxRecDepth 100000 in
set_option maxHeartbeats 1000000 in
theorem apply_any (s : ByteArray) (a : Option Addr) (n c : Nat) (xs : List Pc) (w : World) (ha : InPc w a n xs) (hz : Dl.chkL xs = 0) (hi : Dl.inl xs = s.size) :
    Calls Tryz.prog 57 #[.string s, .slice a n c] w fun e w' => e = .returned (.tuple #[.string ⟨(Dl.text s.data.toList (Dl.atoms 0 xs)).toArray⟩, .int .i64 0]) ∧ Ch (fun _ => False) w w' := by
  obtain ⟨b1, b2, b3, b4⟩ := Dl.chkL_zero.1 hz
  have HB := hid (show Dl.OkL xs ∧ s.size ≤ 2000000 ∧ Dl.oul xs ≤ 2000000 from ⟨b2, by omega, by omega⟩)
  have HA := hid ha
  have HZ := hid (And.intro hz hi)
  clear ha hz hi b1 b2 b3 b4
  go_enter Tryz.func57, Tryz.ntmps57
  go_wp2_with fail
  refine (fits_any s a n c xs w HA.out HZ.out.1 HZ.out.2).mono ?_
  rintro e w1 ⟨rfl, hc1⟩
  have C1 := hid hc1
  clear hc1
  go_wp2_with fail
  refine (parts_any s a n c xs w1 (HA.out.keep C1.out (fun _ _ _ _ => id)) HB.out.1 HZ.out.2 HB.out.2.1 HB.out.2.2).mono ?_
  rintro e w2 ⟨r1, r2, rfl, hc2⟩
  have C2 := hid (C1.out.trans hc2 (fun _ _ h => h))
  clear hc2
  go_wp2_with fail
  go_ret2
  exact ⟨rfl, C2.out⟩
end Go.Proofs.YtefpabicgefciaaGreat
namespace Go.Proofs.YtefpabicgefciaaGreat
open Go.RowKit
set_option linter.unusedVariables false
set_option linter.unusedSimpArgs false
set_option linter.unusedSectionVars false
/-- The memory of a chain, as Delta asks for it. -/
theorem chn_at {B sb : Nat} {cs : Array Value} {rv tv : Value} {rs : List InV} {ts : List ByteArray} {W : World} (h : Chn B sb cs rv tv rs ts W) (hp : ChP rs ts) {n : Nat} (hn : ts.length = n + 1) :
    ∃ g cap tg tc, tv = .slice (some ⟨tg, 0, none⟩) (n + 1) tc ∧ W.cell? ⟨sb, 23, none⟩ = some (.slice (some ⟨g, 0, none⟩) (n + 1) cap) ∧ W.ownsRow B 79 8 (.slice (some ⟨g, 0, none⟩) (n + 1) cap) (n + 1) (rs.flatMap InV.cells) ∧ rs.length = n + 1 ∧ (∀ r ∈ rs, InPc W r.ad r.n2 r.ds ∧ r.n2 ≤ r.c2 ∧ r.ds.length < 5000000) ∧
      (∀ (k : Nat) (t : ByteArray), ts[k]? = some t → W.cell? ⟨tg, k, none⟩ = some (.string t)) := by
  have hr := h.hr
  have hl : rs.length = n + 1 := by rw [hp.len, hn]
  obtain ⟨g, cap, hg, _⟩ := own_form hr (by omega)
  obtain ⟨tg, tc, htg, _⟩ := own_form h.ht (by omega)
  rw [hg, hl] at hr
  have h23 := h.h23
  rw [hg, hl] at h23
  rw [hn] at htg
  refine ⟨g, cap, tg, tc, htg, (h.hs.cell 23).trans h23, hr, hl, fun r hm => ?_, fun k t ht => ?_⟩
  · obtain ⟨A, c2, hv, hc2, _, hin⟩ := own_pc (h.hd r hm)
    injection hv with e1 e2 e3
    refine ⟨by rw [e1]; exact hin, by rw [e3]; exact hc2, ?_⟩
    have := hp.dl r hm
    omega
  · have t2 := h.ht.cells (g := tg) (by rw [htg]; rfl) k (.string t) (by rw [List.getElem?_map, ht]; rfl)
    rw [addr_add0] at t2
    exact t2
theorem str_back (t : ByteArray) : (⟨t.data.toList.toArray⟩ : ByteArray) = t := by
  apply ByteArray.ext
  simp
set_option maxRecDepth 100000 in
set_option maxHeartbeats 4000000 in
theorem deltas_walk (s : ByteArray) (a : Option Addr) (n c : Nat) (l : List Ed) (w : World) (h : InEd w a n l) (hs : s.size ≤ maxLen) :
    Calls Tryz.prog 6 #[.string s, .slice a n c] w fun e w' => e = .returned (.bool true) ∧ Below w.heap.size w w' := by
  have H := hid h
  have HB := hid hs
  clear h hs
  go_enter Tryz.func6, Tryz.ntmps6
  go_wp2_with fail
  refine (short_any s a n c l w H.out HB.out).mono ?_
  rintro e w0 ⟨b, rfl, hb, rfl⟩
  cases b with
  | false =>
    go_wp2_with fail
    go_ret
    exact ⟨rfl, Below.refl _ _⟩
  | true =>
    have hsh := hb rfl
    have hn12 : n ≤ 12 := by rw [← H.out.1]; exact hsh.len
    have HS := hid hsh
    clear hb hsh
    go_wp2_with fail
    refine (chain_any s a n c l w H.out HS.out).mono ?_
    rintro e w1 ⟨sb, cs, rv, tv, rs, ts, rfl, hch, hcp, htl, hC⟩
    have K1 := hid hch
    have HP := hid hcp
    have HTL := hid htl
    have C1 := hid hC
    obtain ⟨g, cap, tg, tc, htv, _⟩ := chn_at hch hcp htl
    subst htv
    clear hch hcp htl hC
    go_wp2_with fail
    go_loopw [7] (fun i W => ∃ k : Nat, k ≤ n + 1 ∧ i = .int .i64 (k : Int) ∧ Ch (fun _ => False) w1 W) (fun i _ => n + 1 - (intOf i).toNat)
    case atStart => exact ⟨0, Nat.zero_le _, rfl, Ch.refl _ _⟩
    case round =>
      obtain ⟨k, hk, rfl, hC⟩ := hrel
      have HC := hid hC
      clear hC
      by_cases hlt : k < n + 1
      · have d1 : decide ((k : Int) < (n : Int) + 1) = true := decide_eq_true (by omega)
        have d2 : decide (k < n + 1) = true := decide_eq_true hlt
        obtain ⟨t, ht⟩ : ∃ t, ts[k]? = some t := ⟨ts[k]'(by rw [HTL.out]; exact hlt), List.getElem?_eq_getElem _⟩
        have HT := hid ht
        clear ht
        go_wp2_with fail
        go_loopw [8] (fun i W => ∃ j : Nat, k ≤ j ∧ j ≤ n + 1 ∧ i = .int .i64 (j : Int) ∧ Ch (fun _ => False) w1 W) (fun i _ => n + 1 - (intOf i).toNat)
        case atStart => exact ⟨k, Nat.le_refl _, hk, rfl, HC.out⟩
        case round =>
          obtain ⟨j, hkj, hj, rfl, hC⟩ := hrel
          have HC2 := hid hC
          have HK := hid (K1.out.keep hC)
          clear hC
          by_cases hlj : j < n + 1
          · have e1 : decide ((j : Int) < (n : Int) + 1) = true := decide_eq_true (by omega)
            have e2 : decide (j < n + 1) = true := decide_eq_true hlj
            obtain ⟨u, hu⟩ : ∃ u, ts[j]? = some u := ⟨ts[j]'(by rw [HTL.out]; exact hlj), List.getElem?_eq_getElem _⟩
            obtain ⟨g2, cap2, tg2, tc2, q1, q2, q3, q4, q5, q6⟩ := chn_at HK.out HP.out HTL.out
            obtain ⟨rfl, rfl⟩ : tg = tg2 ∧ tc = tc2 := by
              injection q1 with a1 a2 a3
              injection a1 with a1
              injection a1 with a1 _ _
              exact ⟨a1, a3⟩
            clear q1
            have ck : wr.cell? ⟨tg, k, none⟩ = some (.string t) := q6 k t HT.out
            have cj : wr.cell? ⟨tg, j, none⟩ = some (.string u) := q6 j u hu
            have Q2 := hid q2
            have Q3 := hid q3
            have Q4 := hid q4
            have Q5 := hid q5
            obtain ⟨m, hm⟩ : ∃ m, j = k + m := ⟨j - k, by omega⟩
            have HD := hid (show (Dl.allE t.size (between rs k m)).2 = 0 ∧ Dl.chkL (Dl.allE t.size (between rs k m)).1 = 0 ∧ Dl.inl (Dl.allE t.size (between rs k m)).1 = t.size ∧ Dl.text t.data.toList (Dl.atoms 0 (Dl.allE t.size (between rs k m)).1) = u.data.toList from del_ok HP.out (by rw [HTL.out]; omega) (by rw [HTL.out]; omega) HT.out (by rw [← hm]; exact hu))
            have HM := hid hm
            clear q2 q3 q4 q5 q6 hu hm
            go_wp2_with fail
            refine (delta_any w.heap.size sb (n + 1) cap2 g2 rs k j wr Q2.out Q3.out Q4.out Q5.out hkj hlj (by omega)).mono ?_
            rintro e w2 ⟨v, r, hr, rfl, hown, hc⟩
            have hrb : r.x.b = t.size := by
              obtain ⟨_, t2, e3, e4, _⟩ := HP.out.at' k r hr
              rw [HT.out] at e3; injection e3 with e3; rw [e3]; exact e4
            rw [hrb, show j - k = m by have := HM.out; omega] at hown ⊢
            rw [HD.out.1]
            obtain ⟨A2, c2, hv2, hc2, _, hin⟩ := own_pc hown
            subst hv2
            obtain ⟨d, hd⟩ : ∃ d, d = (Dl.allE t.size (between rs k m)).1 := ⟨_, rfl⟩
            rw [← hd] at hin ⊢
            have HD2 := hid (show Dl.chkL d = 0 ∧ Dl.inl d = t.size ∧ Dl.text t.data.toList (Dl.atoms 0 d) = u.data.toList from by rw [hd]; exact HD.out.2)
            obtain ⟨dn, hdn⟩ : ∃ x, x = d.length := ⟨_, rfl⟩
            rw [← hdn] at hin ⊢
            have HIN := hid hin
            have C2 := hid (HC2.out.trans hc (fun _ _ h => h))
            have ck2 : w2.cell? ⟨tg, k, none⟩ = some (.string t) := (hc.cell (p := ⟨tg, k, none⟩) (World.block_lt_of_cell? _ _ ck) id).trans ck
            have cj2 : w2.cell? ⟨tg, j, none⟩ = some (.string u) := (hc.cell (p := ⟨tg, j, none⟩) (World.block_lt_of_cell? _ _ cj) id).trans cj
            clear hown hc hr hrb hin hd hdn ck cj hc2
            go_wp2_with fail
            refine (apply_any t A2 dn c2 d w2 HIN.out HD2.out.1 HD2.out.2.1).mono ?_
            rintro e w3 ⟨rfl, hc⟩
            rw [HD2.out.2.2, str_back]
            have C3 := hid (C2.out.trans hc (fun _ _ h => h))
            have cj3 : w3.cell? ⟨tg, j, none⟩ = some (.string u) := (hc.cell (p := ⟨tg, j, none⟩) (World.block_lt_of_cell? _ _ cj2) id).trans cj2
            clear hc ck2 cj2
            go_wp2_with fail
            go_roundw
            case rel => exact ⟨j + 1, by omega, by omega, by go_num, C3.out⟩
            case measure => simp [intOf]; omega
          · obtain rfl : j = n + 1 := by omega
            have e1 : decide (((n + 1 : Nat) : Int) < (n : Int) + 1) = false := decide_eq_false (by push_cast; omega)
            have e3 : decide ((n : Int) + 1 < (n : Int) + 1) = false := decide_eq_false (by omega)
            push_cast
            go_wp2_with fail
            go_roundw
            case rel => exact ⟨k + 1, hlt, by go_num, HC2.out⟩
            case measure => simp [intOf]; omega
      · obtain rfl : k = n + 1 := by omega
        have e1 : decide (((n + 1 : Nat) : Int) < (n : Int) + 1) = false := decide_eq_false (by push_cast; omega)
        have e3 : decide ((n : Int) + 1 < (n : Int) + 1) = false := decide_eq_false (by omega)
        push_cast
        go_wp2_with fail
        go_ret
        have t := C1.out.trans HC.out (fun _ _ h => h)
        exact ⟨rfl, t.below (Nat.le_refl _) (fun _ h => h.elim)⟩
theorem in_ed {w : World} {a : Option Addr} {n : Nat} {ls : List (List Value)} (h : InRowsS [some (some .i64), some (some .i64), none] w a n ls) : ∃ l, InEd w a n l := by
  obtain ⟨hl, hf, hc⟩ := h
  obtain ⟨xs, hxl, hx⟩ := exists_list (R := fun i (x : Ed) => ls[i]? = some x.cells) n (fun i hi => by
    have h0 : ls[i]? = some (ls[i]'(by omega)) := List.getElem?_eq_getElem (by omega)
    obtain ⟨a, b, c, hv, ⟨u, rfl, _⟩, ⟨v, rfl, _⟩, ⟨t, rfl, _⟩⟩ := fits3 _ _ _ rfl (hf _ (List.getElem_mem (by omega : i < ls.length)))
    exact ⟨⟨u, v, t⟩, by rw [h0, hv]; rfl⟩)
  refine ⟨xs, hxl, fun h0 => ?_⟩
  obtain ⟨b, off, rfl, hb, hcell⟩ := hc h0
  exact ⟨b, off, rfl, hb, fun i j x v hi hj => hcell i j _ v (hx i x hi) hj⟩
theorem deltas_in (s : ByteArray) (a : Option Addr) (n c : Nat) (ls : List (List Value)) (w : World) (hs : s.size ≤ maxLen) (h : InRowsS [some (some .i64), some (some .i64), none] w a n ls) :
    Calls Tryz.prog 6 #[.string s, .slice a n c] w fun e w' => e = .returned (.bool true) ∧ Below w.heap.size w w' := by
  obtain ⟨l, hl⟩ := in_ed h
  exact deltas_walk s a n c l w hl hs
end Go.Proofs.YtefpabicgefciaaGreat
