/- CellExamples: the walk. -/
import Derived.Test.YtnoaeeiekblpbaaBothA
import Derived.Test.YtnoaeeiekblpbaaCellF
namespace Go.Proofs.Ytnoaeeiekblpbaa
open Go.RowKit
set_option linter.unusedVariables false

set_option maxHeartbeats 400000 in
theorem check_nil2 (t c : Int) (w : World) : Calls Try.prog 35 #[.pointer none, .int .i64 t, .int .i64 c] w fun e w' => e = .returned (.int .i64 1) ∧ w = w' := by
  go_enter Try.func35, Try.ntmps35
  go_wp2_with (fail)
  all_goals (first | go_ret | go_ret2)
  all_goals exact ⟨rfl, rfl⟩
set_option maxHeartbeats 400000 in
theorem load_nil (t c : Int) (w : World) : Calls Try.prog 31 #[.pointer none, .int .i64 t, .int .i64 c] w fun e w' => e = .returned (.tuple #[.int .u64 0, .int .i64 1]) ∧ w = w' := by
  go_enter Try.func31, Try.ntmps31
  go_wp2_with (go_at_call 35; refine (check_nil2 _ _ _).mono ?_; rintro e w2 ⟨rfl, rfl⟩)
  all_goals (first | go_ret | go_ret2)
  all_goals exact ⟨rfl, rfl⟩
set_option maxHeartbeats 400000 in
theorem store_nil (t c v : Int) (w : World) : Calls Try.prog 32 #[.pointer none, .int .i64 t, .int .i64 c, .int .u64 v] w fun e w' => e = .returned (.int .i64 1) ∧ w = w' := by
  go_enter Try.func32, Try.ntmps32
  go_wp2_with (go_at_call 35; refine (check_nil2 _ _ _).mono ?_; rintro e w2 ⟨rfl, rfl⟩)
  all_goals (first | go_ret | go_ret2)
  all_goals exact ⟨rfl, rfl⟩
set_option maxHeartbeats 400000 in
theorem cas_nil (t c o v : Int) (w : World) : Calls Try.prog 18 #[.pointer none, .int .i64 t, .int .i64 c, .int .u64 o, .int .u64 v] w fun e w' => e = .returned (.tuple #[.bool false, .int .i64 1]) ∧ w = w' := by
  go_enter Try.func18, Try.ntmps18
  go_wp2_with (go_at_call 35; refine (check_nil2 _ _ _).mono ?_; rintro e w2 ⟨rfl, rfl⟩)
  all_goals (first | go_ret | go_ret2)
  all_goals exact ⟨rfl, rfl⟩
set_option maxHeartbeats 400000 in
theorem peek_nil (c : Int) (w : World) : Calls Try.prog 17 #[.pointer none, .int .i64 c] w fun e w' => e = .returned (.tuple #[.int .u64 0, .bool false]) ∧ w = w' := by
  go_enter Try.func17, Try.ntmps17
  go_wp2_with (fail)
  all_goals (first | go_ret | go_ret2)
  all_goals exact ⟨rfl, rfl⟩
set_option maxHeartbeats 400000 in
theorem len_nil (w : World) : Calls Try.prog 22 #[.pointer none] w fun e w' => e = .returned (.int .i64 0) ∧ w = w' := by
  go_enter Try.func22, Try.ntmps22
  go_wp2_with (fail)
  all_goals (first | go_ret | go_ret2)
  all_goals exact ⟨rfl, rfl⟩
set_option maxHeartbeats 400000 in
theorem values_nil (w : World) : Calls Try.prog 21 #[.pointer none] w fun e w' => e = .returned (.slice none 0 0) ∧ w = w' := by
  go_enter Try.func21, Try.ntmps21
  go_wp2_with (fail)
  all_goals (first | go_ret | go_ret2)
  all_goals exact ⟨rfl, rfl⟩
set_option maxHeartbeats 400000 in
theorem log_nil (f : Int) (w : World) : Calls Try.prog 20 #[.pointer none, .int .i64 f] w fun e w' => e = .returned (.slice none 0 0) ∧ w = w' := by
  go_enter Try.func20, Try.ntmps20
  go_wp2_with (fail)
  all_goals (first | go_ret | go_ret2)
  all_goals exact ⟨rfl, rfl⟩
theorem stepOut {B : Nat} {w w' : World} {p cb : Nat} {lv : Value} {vs : List Int} {lg : List Acc} {s' : BS} {g n : Nat} {xs : List Acc} (h : Bank B w p cb lv vs lg) (h1 : p ≠ g ∧ cb ≠ g) (h2 : lv.ownBlock ≠ some g) (hgl : g < w.heap.size)
    (hs : BStep B w w' p cb lv s') (hi : InAccs w (some ⟨g, 0, none⟩) n xs) : ∃ lv', Bank B w' p cb lv' s'.vs s'.lg ∧ lv'.ownBlock ≠ some g ∧ g < w'.heap.size ∧ InAccs w' (some ⟨g, 0, none⟩) n xs := by
  obtain ⟨lv', hb, hc, hf⟩ := hs
  refine ⟨lv', hb, fun hk => ?_, Nat.lt_of_lt_of_le hgl hc.size, hi.ch hc (fun b off ha => ?_)⟩
  · rcases hf with hf | hf
    · exact h2 (hf ▸ hk)
    · have := hf g hk
      omega
  · injection ha with ha
    injection ha with ha _ _
    subst ha
    rintro (rfl | rfl | hk)
    · exact h1.1 rfl
    · exact h1.2 rfl
    · exact h2 hk
def ex0 : BS := ⟨List.replicate 2 0, []⟩
def ex1 : BS := ex0.doAdd 0 0 5
def ex2 : BS := ex1.doAdd 1 0 18446744073709551615
def ex3 : BS := ex2.doCas 0 1 0 9
def ex4 : BS := ex3.doCas 1 1 0 7
def ex5 : BS := ex4.doSwap 1 1 3
def ex6 : BS := ex5.doLoad 0 1
def ex7 : BS := ex6.doStore 16 0 1
def ex8 : BS := ex7.doStore 15 0 4
def ex9 : BS := ex8.doStore (-1) 9 1
def ex10 : BS := ex9.doLoad 0 2
theorem v1 : ex0.addv 0 0 5 = 5 := by decide
theorem r1 : ex0.err 0 0 = 0 := by decide
theorem v2 : ex1.addv 1 0 18446744073709551615 = 4 := by decide
theorem r2 : ex1.err 1 0 = 0 := by decide
theorem v3 : ex2.casv 0 1 0 = true := by decide
theorem r3 : ex2.err 0 1 = 0 := by decide
theorem v4 : ex3.casv 1 1 0 = false := by decide
theorem r4 : ex3.err 1 1 = 0 := by decide
theorem v5 : ex4.ldv 1 1 = 9 := by decide
theorem r5 : ex4.err 1 1 = 0 := by decide
theorem v6 : ex5.ldv 0 1 = 3 := by decide
theorem r6 : ex5.err 0 1 = 0 := by decide
theorem r7 : ex6.err 16 0 = 2 := by decide
theorem r8 : ex7.err 15 0 = 0 := by decide
theorem r9 : ex8.err (-1) 9 = 2 := by decide
theorem v10 : ex9.ldv 0 2 = 0 := by decide
theorem r10 : ex9.err 0 2 = 3 := by decide
theorem pk1 : ex10.pk 2 = 0 := by decide
theorem pk2 : ex10.has 2 = false := by decide
def want : List Acc := [⟨1, 1, 5, 9, 9, false⟩, ⟨1, 1, 4, 9, 3, false⟩, ⟨0, 1, 1, 3, 3, false⟩]
theorem lg6 : ex6.lg = (ex6.lg.take 3) ++ want := rfl
theorem lg6n : ex6.lg.length = 6 := rfl
theorem cut3 : ex6.lg.drop (cutAt 3 ex6.lg.length) = want := rfl
theorem cut6 : ex6.lg.drop (cutAt 6 ex6.lg.length) = [] := rfl
theorem rep2 : repF (List.replicate 2 0) 0 want = (none, 0) := rfl
theorem el0 : ex0.lg.length < 1000000 := by decide
theorem el1 : ex1.lg.length < 1000000 := by decide
theorem el2 : ex2.lg.length < 1000000 := by decide
theorem el3 : ex3.lg.length < 1000000 := by decide
theorem el4 : ex4.lg.length < 1000000 := by decide
theorem el5 : ex5.lg.length < 1000000 := by decide
theorem el6 : ex6.lg.length < 1000000 := by decide
theorem el7 : ex7.lg.length < 1000000 := by decide
theorem el8 : ex8.lg.length < 1000000 := by decide
theorem el9 : ex9.lg.length < 1000000 := by decide
theorem el10 : ex10.lg.length < 1000000 := by decide

set_option maxRecDepth 100000 in
set_option maxHeartbeats 4000000 in
theorem ex_walk (w : World) : Calls Try.prog 11 #[] w fun e w' => e = .returned (.bool true) ∧ Below w.heap.size w w' := by
  go_enter Try.func11, Try.ntmps11
  go_wp2_with fail
  refine (new_ok w.heap.size 2 (by decide) (by decide) w (Nat.le_refl _)).mono ?_
  rintro e W0 ⟨p, cb, rfl, hb0, hc, hp, hcb⟩
  have hbel0 := hc.below (B := w.heap.size) (Nat.le_refl _) (fun _ h => h.elim)
  have hB0 := hbel0.size
  obtain ⟨lv0, hlv0⟩ : ∃ lv0 : Value, lv0 = .slice none 0 0 := ⟨_, rfl⟩
  rw [← hlv0] at hb0
  replace hb0 : Bank w.heap.size W0 p cb lv0 ex0.vs ex0.lg := hb0
  clear hlv0 hc
  go_wp2_with fail
  have A := add_any w.heap.size p cb lv0 ex0 0 0 W0 hb0 el0 hB0 5
  rw [v1, r1] at A
  refine A.mono ?_
  clear A
  rintro e W1 ⟨rfl, hs⟩
  have hx1 := hs.below hb0 hB0
  obtain ⟨lv1, hb1, -, -⟩ := hs
  have hB1 := Nat.le_trans hB0 hx1.size
  have hbel1 := hbel0.trans hx1
  clear hb0 hx1
  replace hb1 : Bank w.heap.size W1 p cb lv1 ex1.vs ex1.lg := hb1
  go_wp2_with fail
  have A := add_any w.heap.size p cb lv1 ex1 1 0 W1 hb1 el1 hB1 18446744073709551615
  rw [v2, r2] at A
  refine A.mono ?_
  clear A
  rintro e W2 ⟨rfl, hs⟩
  have hx2 := hs.below hb1 hB1
  obtain ⟨lv2, hb2, -, -⟩ := hs
  have hB2 := Nat.le_trans hB1 hx2.size
  have hbel2 := hbel1.trans hx2
  clear hb1 hx2
  replace hb2 : Bank w.heap.size W2 p cb lv2 ex2.vs ex2.lg := hb2
  go_wp2_with fail
  have A := cas_any w.heap.size p cb lv2 ex2 0 1 W2 hb2 el2 hB2 0 9 ⟨by decide, by decide⟩
  rw [v3, r3] at A
  refine A.mono ?_
  clear A
  rintro e W3 ⟨rfl, hs⟩
  have hx3 := hs.below hb2 hB2
  obtain ⟨lv3, hb3, -, -⟩ := hs
  have hB3 := Nat.le_trans hB2 hx3.size
  have hbel3 := hbel2.trans hx3
  clear hb2 hx3
  replace hb3 : Bank w.heap.size W3 p cb lv3 ex3.vs ex3.lg := hb3
  go_wp2_with fail
  have A := cas_any w.heap.size p cb lv3 ex3 1 1 W3 hb3 el3 hB3 0 7 ⟨by decide, by decide⟩
  rw [v4, r4] at A
  refine A.mono ?_
  clear A
  rintro e W4 ⟨rfl, hs⟩
  have hx4 := hs.below hb3 hB3
  obtain ⟨lv4, hb4, -, -⟩ := hs
  have hB4 := Nat.le_trans hB3 hx4.size
  have hbel4 := hbel3.trans hx4
  clear hb3 hx4
  replace hb4 : Bank w.heap.size W4 p cb lv4 ex4.vs ex4.lg := hb4
  go_wp2_with fail
  have A := swap_any w.heap.size p cb lv4 ex4 1 1 W4 hb4 el4 hB4 3 ⟨by decide, by decide⟩
  rw [v5, r5] at A
  refine A.mono ?_
  clear A
  rintro e W5 ⟨rfl, hs⟩
  have hx5 := hs.below hb4 hB4
  obtain ⟨lv5, hb5, -, -⟩ := hs
  have hB5 := Nat.le_trans hB4 hx5.size
  have hbel5 := hbel4.trans hx5
  clear hb4 hx5
  replace hb5 : Bank w.heap.size W5 p cb lv5 ex5.vs ex5.lg := hb5
  go_wp2_with fail
  have A := load_any w.heap.size p cb lv5 ex5 0 1 W5 hb5 el5 hB5 
  rw [v6, r6] at A
  refine A.mono ?_
  clear A
  rintro e W6 ⟨rfl, hs⟩
  have hx6 := hs.below hb5 hB5
  obtain ⟨lv6, hb6, -, -⟩ := hs
  have hB6 := Nat.le_trans hB5 hx6.size
  have hbel6 := hbel5.trans hx6
  clear hb5 hx6
  replace hb6 : Bank w.heap.size W6 p cb lv6 ex6.vs ex6.lg := hb6
  go_wp2_with fail
  refine calls_world fun W hW => ?_
  have cW : Ch (fun _ => False) W6 W := by rw [hW]; exact (Ch.refl _ _).alloc _
  have bW : Blk W W6.heap.size 49 (logCells want).toArray := by rw [hW]; exact Blk.new _ _ _
  have hin0 := blk_accs bW
  have bWlt := bW.lt
  clear hW
  have hbW := hb6.ch cW id id (fun _ _ => id)
  have hbelW := hbel6.trans (cW.below hB6 (fun _ h => h.elim))
  have A := log_any w.heap.size p cb lv6 ex6 3 W hbW el6
  rw [cut3] at A
  refine A.mono ?_
  clear A
  rintro e Wa ⟨gl, rfl, hlog, hca, hgl⟩
  have hba := hbW.ch hca id id (fun _ _ => id)
  have hina := hin0.ch hca (fun _ _ _ => id)
  have hbela := hbelW.trans (hca.below hbelW.size (fun _ h => h.elim))
  have hl1 := blk_accs hlog
  clear hlog bW
  go_wp2_with fail
  refine (eqAccs_any _ _ 3 _ 3 _ want want Wa hl1 hina (by decide)).mono ?_
  rintro e Wb ⟨he, d1, rfl⟩
  obtain rfl := he rfl
  go_wp2_with fail
  refine calls_world fun Wb hW => ?_
  have ccb : Ch (fun _ => False) Wa Wb := by rw [hW]; exact (Ch.refl _ _).drewN _
  clear hW
  have hbb := hba.ch ccb id id (fun _ _ => id)
  have hinb := hina.ch ccb (fun _ _ _ => id)
  have hbelb := hbela.trans (ccb.below hbela.size (fun _ h => h.elim))
  have A := log_any w.heap.size p cb lv6 ex6 6 Wb hbb el6
  rw [cut6] at A
  refine A.mono ?_
  clear A
  rintro e V6 ⟨gl2, rfl, hlog2, hcc, hgl2⟩
  have kb6 := hbb.ch hcc id id (fun _ _ => id)
  have ki6 := hinb.ch hcc (fun _ _ _ => id)
  have kel6 := hbelb.trans (hcc.below hbelb.size (fun _ h => h.elim))
  have kB6 := kel6.size
  have kv6e : lv6 = lv6 := rfl
  have hne : p ≠ W6.heap.size ∧ cb ≠ W6.heap.size := ⟨Nat.ne_of_lt hb6.hp.lt, Nat.ne_of_lt hb6.hc.lt⟩
  have kn6 : lv6.ownBlock ≠ some W6.heap.size := fun hk => Nat.lt_irrefl _ (hb6.hl.lt _ hk).2
  have kg6 : W6.heap.size < V6.heap.size := Nat.lt_of_lt_of_le (Nat.lt_of_lt_of_le (Nat.lt_of_lt_of_le bWlt hca.size) ccb.size) hcc.size
  obtain ⟨kv6, hkv6⟩ : ∃ kv6, kv6 = lv6 := ⟨_, rfl⟩
  rw [← hkv6] at kb6 kn6
  clear hkv6 kv6e hlog2 hb6 hbb hba hina hinb hl1 hin0 hbW
  go_wp2_with fail
  have A := store_any w.heap.size p cb kv6 ex6 16 0 V6 kb6 el6 kB6 1 ⟨by decide, by decide⟩
  rw [r7] at A
  refine A.mono ?_
  clear A
  rintro e V7 ⟨rfl, hs⟩
  have kx7 := hs.below kb6 kB6
  obtain ⟨kv7, kb7, kn7, kg7, ki7⟩ := stepOut kb6 hne kn6 kg6 hs ki6
  have kB7 := Nat.le_trans kB6 kx7.size
  have kel7 := kel6.trans kx7
  clear kb6 kx7 hs ki6 kn6 kg6
  replace kb7 : Bank w.heap.size V7 p cb kv7 ex7.vs ex7.lg := kb7
  go_wp2_with fail
  have A := store_any w.heap.size p cb kv7 ex7 15 0 V7 kb7 el7 kB7 4 ⟨by decide, by decide⟩
  rw [r8] at A
  refine A.mono ?_
  clear A
  rintro e V8 ⟨rfl, hs⟩
  have kx8 := hs.below kb7 kB7
  obtain ⟨kv8, kb8, kn8, kg8, ki8⟩ := stepOut kb7 hne kn7 kg7 hs ki7
  have kB8 := Nat.le_trans kB7 kx8.size
  have kel8 := kel7.trans kx8
  clear kb7 kx8 hs ki7 kn7 kg7
  replace kb8 : Bank w.heap.size V8 p cb kv8 ex8.vs ex8.lg := kb8
  go_wp2_with fail
  have A := store_any w.heap.size p cb kv8 ex8 (-1) 9 V8 kb8 el8 kB8 1 ⟨by decide, by decide⟩
  rw [r9] at A
  refine A.mono ?_
  clear A
  rintro e V9 ⟨rfl, hs⟩
  have kx9 := hs.below kb8 kB8
  obtain ⟨kv9, kb9, kn9, kg9, ki9⟩ := stepOut kb8 hne kn8 kg8 hs ki8
  have kB9 := Nat.le_trans kB8 kx9.size
  have kel9 := kel8.trans kx9
  clear kb8 kx9 hs ki8 kn8 kg8
  replace kb9 : Bank w.heap.size V9 p cb kv9 ex9.vs ex9.lg := kb9
  go_wp2_with fail
  have A := load_any w.heap.size p cb kv9 ex9 0 2 V9 kb9 el9 kB9 
  rw [v10, r10] at A
  refine A.mono ?_
  clear A
  rintro e V10 ⟨rfl, hs⟩
  have kx10 := hs.below kb9 kB9
  obtain ⟨kv10, kb10, kn10, kg10, ki10⟩ := stepOut kb9 hne kn9 kg9 hs ki9
  have kB10 := Nat.le_trans kB9 kx10.size
  have kel10 := kel9.trans kx10
  clear kb9 kx10 hs ki9 kn9 kg9
  replace kb10 : Bank w.heap.size V10 p cb kv10 ex10.vs ex10.lg := kb10
  go_wp2_with fail
  have A := peek_any w.heap.size p cb kv10 ex10 2 V10 kb10
  rw [pk1, pk2] at A
  refine A.mono ?_
  clear A
  rintro e Wx ⟨rfl, rfl⟩
  go_wp2_with fail
  have A := replay_ok 2 (by decide) (by decide) _ 3 3 want V10 ki10 (by decide)
  rw [rep2] at A
  refine A.mono ?_
  clear A
  rintro e W11 ⟨hc11, hans⟩
  obtain rfl : e = .returned (.tuple #[.slice none 0 0, .int .i64 0, .int .i64 25]) := hans
  have hbel11 := kel10.trans (hc11.below kel10.size (fun _ h => h.elim))
  go_wp2_with fail
  refine (new_bad 0 (by decide) _).mono ?_
  rintro e Wx ⟨rfl, rfl⟩
  go_wp2_with fail
  refine (new_bad 4097 (by decide) _).mono ?_
  rintro e Wx ⟨rfl, rfl⟩
  go_wp2_with fail
  refine (load_nil 0 0 _).mono ?_
  rintro e Wx ⟨rfl, rfl⟩
  go_wp2_with fail
  refine (cas_nil 99 0 0 0 _).mono ?_
  rintro e Wx ⟨rfl, rfl⟩
  go_wp2_with fail
  refine (peek_nil 0 _).mono ?_
  rintro e Wx ⟨rfl, rfl⟩
  go_wp2_with fail
  refine (store_nil 0 0 0 _).mono ?_
  rintro e Wx ⟨rfl, rfl⟩
  go_wp2_with fail
  refine (len_nil _).mono ?_
  rintro e Wx ⟨rfl, rfl⟩
  go_wp2_with fail
  refine (log_nil 0 _).mono ?_
  rintro e Wx ⟨rfl, rfl⟩
  go_wp2_with fail
  refine (values_nil _).mono ?_
  rintro e Wx ⟨rfl, rfl⟩
  go_wp2_with fail
  go_ret
  exact ⟨rfl, hbel11⟩
end Go.Proofs.Ytnoaeeiekblpbaa
