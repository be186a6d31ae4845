/- Lemmas that the proof of the last text leans on; no condition. -/
import Derived.Test.YtjcdknhejcbpiaaGreatNb22
namespace Go.Proofs.YtjcdknhejcbpiaaGreat
open Go.RowKit
set_option linter.unusedVariables false
set_option linter.unusedSimpArgs false
set_option linter.unusedSectionVars false
set_option maxRecDepth 100000
theorem fold_b : ∀ (l : List Ms) (m0 : Ms), (l.foldl Ms.add m0).b = m0.b + (l.map Ms.b).sum
  | [], m0 => by simp
  | m :: l, m0 => by rw [List.foldl_cons, fold_b l]; simp only [Ms.add, List.map_cons, List.sum_cons]; omega
theorem msum_b (l : List Ms) : (msum l).b = (l.map Ms.b).sum := by unfold msum; rw [fold_b]; simp
def Ms.ord (m : Ms) : Prop := 0 ≤ m.l ∧ m.l ≤ m.r ∧ m.r ≤ m.b
theorem fold_ord : ∀ (l : List Ms) (m0 : Ms), m0.ord → (∀ m ∈ l, m.ord) → (l.foldl Ms.add m0).ord
  | [], m0, h, _ => h
  | m :: l, m0, h, hl => fold_ord l (m0.add m) (by obtain ⟨a, b, c⟩ := h; obtain ⟨d, e, f⟩ := hl m (by simp); exact ⟨by simp only [Ms.add]; omega, by simp only [Ms.add]; omega, by simp only [Ms.add]; omega⟩) (fun k hk => hl k (by simp [hk]))
theorem msum_ord (l : List Ms) (h : ∀ m ∈ l, m.ord) : (msum l).ord := fold_ord l _ ⟨by decide, by decide, by decide⟩ h
theorem mOf_ord (s : ByteArray) : (mOf s).ord := by
  refine ⟨by simp only [mOf]; omega, ?_, cntP_len _ s⟩
  simp only [mOf]
  have : cntP (fun b => b == 10) (bs s) ≤ cntP begB (bs s) := by
    unfold cntP
    refine filter_le _ _ ?_ _
    intro b hb
    simp at hb
    subst hb
    rfl
  omega
theorem meas_bytes (t : T) : t.meas.b = (t.bytes : Int) ∧ t.meas.ord := by
  induction t using T.ind with
  | hl s => exact ⟨rfl, mOf_ord s⟩
  | hn h ks ih =>
    have hb : ∀ l : List T, (∀ t ∈ l, t.meas.b = (t.bytes : Int)) → (msum (T.measL l)).b = (T.bytesL l : Int) := by
      intro l
      induction l with
      | nil => intro _; rfl
      | cons t ts ih' =>
        intro h
        have h2 := ih' (fun t ht => h t (by simp [ht]))
        rw [msum_b] at h2 ⊢
        simp only [T.measL, List.map_cons, List.sum_cons, T.bytesL]
        rw [h2, h t (by simp)]
        push_cast
        rfl
    refine ⟨?_, ?_⟩
    · simp only [T.meas, T.bytes]
      exact hb ks (fun t ht => (ih t ht).1)
    · simp only [T.meas]
      refine msum_ord _ (fun m hm => ?_)
      rw [measL_map] at hm
      obtain ⟨t, ht, rfl⟩ := List.mem_map.1 hm
      exact (ih t ht).2
theorem measL_b (l : List T) : (msum (T.measL l)).b = (T.bytesL l : Int) := (meas_bytes (.node 0 l)).1
theorem measL_ord (l : List T) : (msum (T.measL l)).ord := (meas_bytes (.node 0 l)).2
def fOf (n : Nat) (its : List It) (j : Nat) : Option Nat := if n ≤ j then (its[j - n]?).map It.rb else none
structure Its (w : World) (S : Nat → Prop) (pb n : Nat) (sps : List Sp) (its : List It) : Prop where
  len : its.length = sps.length
  item : ∀ (i : Nat) (sp : Sp) (it : It), sps[i]? = some sp → its[i]? = some it → ItemM w S pb (fOf n its) sp it
  root : ∀ (i : Nat) (sp : Sp) (it : It), sps[i]? = some sp → its[i]? = some it → RootM w sp it 0
  diff : ∀ (i j : Nat) (it it' : It), its[i]? = some it → its[j]? = some it' → i ≠ j → it.rb ≠ it'.rb
def AddOut (t : T) (B pb n : Nat) (av todo rv : Value) (vals : List Value) (w : World) (e : Ending) (w' : World) : Prop :=
  ∃ its it0 todo', e = .returned (.pointer (some ⟨it0.rb, 0, none⟩)) ∧ its[t.cnt - 1]? = some it0 ∧ Blk w' pb 248 #[av, todo', rv] ∧ w'.ownsRow B 276 1 todo' (n + t.cnt) (vals ++ its.map It.v) ∧
    Its w' (fun k => w.heap.size ≤ k) pb n (T.post n t) its ∧ (∀ it ∈ its, w.heap.size ≤ it.rb) ∧ Ch (fun k => k = pb ∨ todo.ownBlock = some k) w w' ∧ Fresh w todo todo'
set_option maxHeartbeats 4000000 in
theorem add_leaf (s : ByteArray) (B pb n : Nat) (av todo rv : Value) (vals : List Value) (w : World) (h1 : 1 ≤ s.size) (h2 : s.size ≤ 16) (hp : Blk w pb 248 #[av, todo, rv]) (ho : w.ownsRow B 276 1 todo n vals) (hB : B ≤ w.heap.size) (hn : n ≤ 60000) :
    Calls Tryz.prog 145 #[.pointer (some ⟨pb, 0, none⟩), .agg #[.int .u64 0, .int .i64 0, .int .i64 0, .int .i64 0, .int .i64 0, .string s, .slice none 0 0]] w (AddOut (.leaf s) B pb n av todo rv vals w) := by
  have d3 := size_data (s := s) (by omega)
  have HP := hid hp
  have HO := hid ho
  have hpl := hp.lt
  clear hp ho
  go_enter Tryz.func145, Tryz.ntmps145
  go_wp2_with fail
  refine calls_world fun W1 hW1 => ?_
  obtain ⟨b0, hb0⟩ : ∃ x, x = w.heap.size := ⟨_, rfl⟩
  rw [show w.heap.size + 1 + 1 = b0 + 2 by omega, show w.heap.size + 1 = b0 + 1 by omega]
  have C1 := hid (show Ch (fun _ => False) w W1 from by rw [hW1]; exact (((Ch.refl _ w).alloc _).alloc _).alloc _)
  have R1 := hid (show Blk W1 (b0 + 1) 102 #[.int .u64 0, .int .i64 0, .int .i64 0, .int .i64 0, .int .i64 0] from by
    rw [hW1, hb0]
    have t := (Blk.new (w.alloc (.cells #[.int .u64 0, .int .i64 0, .int .i64 0, .int .i64 0, .int .i64 0, .string s, .slice none 0 0] 183)) 102 #[.int .u64 0, .int .i64 0, .int .i64 0, .int .i64 0, .int .i64 0]).alloc (.cells #[.int .i64 0, .string s, .slice none 0 0] 229)
    simpa using t)
  have X1 := hid (show Blk W1 (b0 + 2) 229 #[.int .i64 0, .string s, .slice none 0 0] from by
    rw [hW1, hb0]
    have t := Blk.new ((w.alloc (.cells #[.int .u64 0, .int .i64 0, .int .i64 0, .int .i64 0, .int .i64 0, .string s, .slice none 0 0] 183)).alloc (.cells #[.int .u64 0, .int .i64 0, .int .i64 0, .int .i64 0, .int .i64 0] 102)) 229 #[.int .i64 0, .string s, .slice none 0 0]
    simpa using t)
  clear hW1
  have HZ := hid hb0
  have hpb : pb < b0 := by omega
  have hBb : B ≤ b0 := by omega
  clear hb0 hpl hB
  have hnd : Nd.ok ⟨0, s, []⟩ := .inl ⟨rfl, h1, h2, rfl⟩
  refine (nmeas_any (fun _ => True) ⟨0, s, []⟩ none 0 0 W1 hnd (InP.nil _ _ _ _ _)).mono ?_
  rintro e w2 ⟨rfl, hc⟩
  rw [show (Nd.ms ⟨0, s, []⟩) = mOf s from rfl]
  simp only [Ms.v]
  have C2 := hid (C1.out.trans hc (fun _ _ h => h))
  have R2 := hid (hc.blk R1.out id)
  have X2 := hid (hc.blk X1.out id)
  clear hc R1 X1 C1
  have r2 : w2.cell? ⟨b0 + 1, 2, none⟩ = some (.int .i64 0) := R2.out.cell 2
  have r3 : w2.cell? ⟨b0 + 1, 3, none⟩ = some (.int .i64 0) := R2.out.cell 3
  have r4 : w2.cell? ⟨b0 + 1, 4, none⟩ = some (.int .i64 0) := R2.out.cell 4
  have s2 := R2.out.free 2
  have s3 := R2.out.free 3
  have s4 := R2.out.free 4
  go_wp2_with fail
  refine calls_world fun W3 hW3 => ?_
  have D3 := hid (show Ch (fun k => k = b0 + 1) w2 W3 from by rw [hW3]; exact (((Ch.refl (fun k => k = b0 + 1) w2).set (fun _ => rfl) _).set (fun _ => rfl) _).set (fun _ => rfl) _)
  have R3 := hid (show Blk W3 (b0 + 1) 102 #[.int .u64 0, .int .i64 0, .int .i64 (mOf s).b, .int .i64 (mOf s).r, .int .i64 (mOf s).l] from by rw [hW3]; exact ((R2.out.put 2 _).put 3 _).put 4 _)
  have C3 := hid (show Ch (fun _ => False) w W3 from C2.out.trans D3.out (fun i hi e => absurd hi (by have := HZ.out; omega)))
  have X3 := hid (D3.out.blk X2.out (by omega))
  clear hW3 r2 r3 r4 s2 s3 s4 R2 X2
  refine (put_any B pb (b0 + 1) av todo rv 161 #[.pointer (some ⟨b0 + 2, 0, none⟩)] n vals W3 (C3.out.blk HP.out id) (C3.out.own HO.out (fun _ _ => id)) (by have := C3.out.size; have := HZ.out; omega) (by omega)).mono ?_
  rintro e w4 ⟨bp, bc, br, todo', rfl, hp4, ho4, hbp, hbc, hbr, z1, z2, z3, hc4, hf4⟩
  go_wp2_with fail
  go_ret
  have hsz := C3.out.size
  have hzz := HZ.out
  have own3 := C3.out.own HO.out (fun _ _ => id)
  have hown : ∀ k, todo.ownBlock = some k → k < w.heap.size := fun k hk => (HO.out.lt k hk).2
  have kp : ∀ (g : Nat) (t : TypeId) (cs : Array Value), Blk W3 g t cs → b0 ≤ g → Blk w4 g t cs := fun g t cs hb hg => hc4.blk hb (fun e => by
    rcases e with e | e
    · omega
    · have := hown g e; omega)
  refine ⟨[⟨b0 + 1, bp, bc, br, b0 + 2, 0, 0, 0⟩], ⟨b0 + 1, bp, bc, br, b0 + 2, 0, 0, 0⟩, todo', rfl, rfl, hp4, ho4, ⟨rfl, ?_, ?_, ?_⟩, ?_, ?_, ?_⟩
  · intro i sp it hi hi'
    match i, hi, hi' with
    | 0, hi, hi' =>
      simp [T.post] at hi
      simp at hi'
      subst hi hi'
      exact ⟨⟨hbp, by show w.heap.size ≤ bp; omega⟩, ⟨hbr, by show w.heap.size ≤ br; omega⟩, .inl ⟨rfl, rfl, ⟨hbc, by show w.heap.size ≤ bc; omega⟩, ⟨kp (b0 + 2) _ _ X3.out (by omega), by show w.heap.size ≤ b0 + 2; omega⟩⟩⟩
    | i + 1, hi, hi' => simp at hi'
  · intro i sp it hi hi'
    match i, hi, hi' with
    | 0, hi, hi' =>
      simp [T.post] at hi
      simp at hi'
      subst hi hi'
      exact kp (b0 + 1) _ _ R3.out (by omega)
    | i + 1, hi, hi' => simp at hi'
  · intro i j it it' hi hj hne
    match i, j, hi, hj with
    | 0, 0, _, _ => exact absurd rfl hne
    | i + 1, _, hi, _ => simp at hi
    | 0, j + 1, _, hj => simp at hj
  · intro it hit
    simp at hit
    subst hit
    show w.heap.size ≤ b0 + 1
    omega
  · exact (C3.out.mono (fun _ _ e => e.elim)).trans hc4 (fun _ _ h => h)
  · rcases hf4 with e | e
    · exact .inl e
    · exact .inr (fun k hk => by have := e k hk; omega)
end Go.Proofs.YtjcdknhejcbpiaaGreat
