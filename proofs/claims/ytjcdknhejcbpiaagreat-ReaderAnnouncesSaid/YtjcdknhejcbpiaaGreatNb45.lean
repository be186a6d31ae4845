/- Lemmas that the proof of the last text leans on; no condition. -/
import Derived.Test.YtjcdknhejcbpiaaGreatNb37
import Derived.Test.YtjcdknhejcbpiaaGreatNb34
namespace Go.Proofs.YtjcdknhejcbpiaaGreat
open Go.RowKit
set_option linter.unusedVariables false
set_option linter.unusedSimpArgs false
set_option linter.unusedSectionVars false
theorem tmod_pos {a b : Int} (hb : 0 < b) (hb2 : b ≤ 150) : ∃ k : Nat, (wrap64 (a.tmod b + b)).tmod b = (k : Int) ∧ (k : Int) < b := by
  have h1 : a.tmod b < b := Int.tmod_lt_of_pos a hb
  have h2 : -b < a.tmod b := by
    have := Int.tmod_lt_of_pos (-a) hb
    rw [Int.neg_tmod] at this
    omega
  have hw : wrap64 (a.tmod b + b) = a.tmod b + b := by unfold wrap64; omega
  rw [hw]
  have h3 : 0 ≤ a.tmod b + b := by omega
  have h4 := Int.tmod_nonneg b h3
  have h5 := Int.tmod_lt_of_pos (a.tmod b + b) hb
  exact ⟨((a.tmod b + b).tmod b).toNat, by omega, by omega⟩
def ClnOut (rd : Nat) (w : World) (e : Ending) (w' : World) : Prop :=
  ∃ (op' : OpV) (b : Bool), e = .returned (.tuple #[op'.v, .bool b]) ∧ Ch (fun _ => False) w w' ∧ ((b = true ∧ ∃ c : Cop, op' = c.op ∧ c.small rd) ∨ (b = false ∧ rd = 0))
set_option maxRecDepth 100000 in
set_option maxHeartbeats 2000000 in
theorem lclean_5i (sl pos num id' gr : Int) (s : ByteArray) (hid' : 0 ≤ id' ∧ id' < 4294967296) (rd : Nat) (hr : rd ≤ 4) (w : World) : Calls Tryz.prog 10 #[OpV.v ⟨5, sl, pos, num, id', gr, s⟩, .int .i64 rd] w (ClnOut rd w) := by
  simp only [OpV.v]
  go_enter Tryz.func10, Tryz.ntmps10
  go_wp2_with fail
  refine bodyPost_ret (v := .tuple #[OpV.v (Cop.op (.acq)), .bool true]) (by simp [results, Tryz.results10, go_sem, OpV.v, Cop.op, acqOp]) rfl ⟨_, true, rfl, ?_, .inl ⟨rfl, .acq, rfl, trivial⟩⟩
  repeat (refine Ch.alloc ?_ _)
  exact Ch.refl _ w
set_option maxRecDepth 100000 in
set_option maxHeartbeats 2000000 in
theorem lclean_5l (k : Int) (h0 : 0 ≤ k) (h1 : k < 5) (h2 : 5 + k % 9 = 5) (sl pos num id' gr : Int) (s : ByteArray) (hid' : 0 ≤ id' ∧ id' < 4294967296) (rd : Nat) (hr : rd ≤ 4) (w : World) : Calls Tryz.prog 10 #[OpV.v ⟨k, sl, pos, num, id', gr, s⟩, .int .i64 rd] w (ClnOut rd w) := by
  have d3 : decide (k < 5) = true := decide_eq_true h1
  clear h1
  simp only [OpV.v]
  go_enter Tryz.func10, Tryz.ntmps10
  go_wp2_with fail
  refine bodyPost_ret (v := .tuple #[OpV.v (Cop.op (.acq)), .bool true]) (by simp [results, Tryz.results10, go_sem, OpV.v, Cop.op, acqOp]) rfl ⟨_, true, rfl, ?_, .inl ⟨rfl, .acq, rfl, trivial⟩⟩
  repeat (refine Ch.alloc ?_ _)
  exact Ch.refl _ w
set_option maxRecDepth 100000 in
set_option maxHeartbeats 2000000 in
theorem lclean_5g (k : Int) (h0 : 0 ≤ k) (h1 : 13 < k) (h3 : k < 256) (h2 : 5 + k % 9 = 5) (sl pos num id' gr : Int) (s : ByteArray) (hid' : 0 ≤ id' ∧ id' < 4294967296) (rd : Nat) (hr : rd ≤ 4) (w : World) : Calls Tryz.prog 10 #[OpV.v ⟨k, sl, pos, num, id', gr, s⟩, .int .i64 rd] w (ClnOut rd w) := by
  have d3 : decide (k < 5) = false := decide_eq_false (by omega)
  have d4 : decide (13 < k) = true := decide_eq_true h1
  have w8 : IntKind.u8.wrap (5 + k % 9) = 5 + k % 9 := by simp [IntKind.wrap, IntKind.signed, IntKind.bits]; omega
  simp only [OpV.v]
  go_enter Tryz.func10, Tryz.ntmps10
  go_wp2_with fail
  refine bodyPost_ret (v := .tuple #[OpV.v (Cop.op (.acq)), .bool true]) (by simp [results, Tryz.results10, go_sem, OpV.v, Cop.op, acqOp]) rfl ⟨_, true, rfl, ?_, .inl ⟨rfl, .acq, rfl, trivial⟩⟩
  repeat (refine Ch.alloc ?_ _)
  exact Ch.refl _ w
set_option maxRecDepth 100000 in
set_option maxHeartbeats 2000000 in
theorem lclean_6i (sl pos num id' gr : Int) (s : ByteArray) (hid' : 0 ≤ id' ∧ id' < 4294967296) (rd : Nat) (hr : rd ≤ 4) (w : World) : Calls Tryz.prog 10 #[OpV.v ⟨6, sl, pos, num, id', gr, s⟩, .int .i64 rd] w (ClnOut rd w) := by
  rcases Nat.eq_zero_or_pos rd with h9 | h9
  · subst h9
    simp only [OpV.v]
    go_enter Tryz.func10, Tryz.ntmps10
    go_wp2_with fail
    refine bodyPost_ret (v := .tuple #[OpV.v ⟨6, 0, 0, 0, 0, 0, ⟨#[]⟩⟩, .bool false]) (by simp [results, Tryz.results10, go_sem, OpV.v]) rfl ⟨_, false, rfl, ?_, .inr ⟨rfl, rfl⟩⟩
    repeat (refine Ch.alloc ?_ _)
    exact Ch.refl _ w
  · have hr1 : (rd : Int) ≠ 0 := by omega
    have d1 : decide ((rd : Int) < 1) = false := decide_eq_false (by omega)
    have d2 : decide (rd < 1) = false := decide_eq_false (by omega)
    obtain ⟨sk, eS, hsk⟩ := tmod_pos (a := sl) (b := (rd : Int)) (by omega) (by omega)
    have hsk : sk < rd := by omega
    simp only [OpV.v]
    go_enter Tryz.func10, Tryz.ntmps10
    go_wp2_with fail
    refine bodyPost_ret (v := .tuple #[OpV.v (Cop.op (.len sk)), .bool true]) (by simp [results, Tryz.results10, go_sem, OpV.v, Cop.op, acqOp]) rfl ⟨_, true, rfl, ?_, .inl ⟨rfl, .len sk, rfl, hsk⟩⟩
    repeat (refine Ch.alloc ?_ _)
    exact Ch.refl _ w
set_option maxRecDepth 100000 in
set_option maxHeartbeats 2000000 in
theorem lclean_6l (k : Int) (h0 : 0 ≤ k) (h1 : k < 5) (h2 : 5 + k % 9 = 6) (sl pos num id' gr : Int) (s : ByteArray) (hid' : 0 ≤ id' ∧ id' < 4294967296) (rd : Nat) (hr : rd ≤ 4) (w : World) : Calls Tryz.prog 10 #[OpV.v ⟨k, sl, pos, num, id', gr, s⟩, .int .i64 rd] w (ClnOut rd w) := by
  have d3 : decide (k < 5) = true := decide_eq_true h1
  clear h1
  rcases Nat.eq_zero_or_pos rd with h9 | h9
  · subst h9
    simp only [OpV.v]
    go_enter Tryz.func10, Tryz.ntmps10
    go_wp2_with fail
    refine bodyPost_ret (v := .tuple #[OpV.v ⟨6, 0, 0, 0, 0, 0, ⟨#[]⟩⟩, .bool false]) (by simp [results, Tryz.results10, go_sem, OpV.v]) rfl ⟨_, false, rfl, ?_, .inr ⟨rfl, rfl⟩⟩
    repeat (refine Ch.alloc ?_ _)
    exact Ch.refl _ w
  · have hr1 : (rd : Int) ≠ 0 := by omega
    have d1 : decide ((rd : Int) < 1) = false := decide_eq_false (by omega)
    have d2 : decide (rd < 1) = false := decide_eq_false (by omega)
    obtain ⟨sk, eS, hsk⟩ := tmod_pos (a := sl) (b := (rd : Int)) (by omega) (by omega)
    have hsk : sk < rd := by omega
    simp only [OpV.v]
    go_enter Tryz.func10, Tryz.ntmps10
    go_wp2_with fail
    refine bodyPost_ret (v := .tuple #[OpV.v (Cop.op (.len sk)), .bool true]) (by simp [results, Tryz.results10, go_sem, OpV.v, Cop.op, acqOp]) rfl ⟨_, true, rfl, ?_, .inl ⟨rfl, .len sk, rfl, hsk⟩⟩
    repeat (refine Ch.alloc ?_ _)
    exact Ch.refl _ w
set_option maxRecDepth 100000 in
set_option maxHeartbeats 2000000 in
theorem lclean_6g (k : Int) (h0 : 0 ≤ k) (h1 : 13 < k) (h3 : k < 256) (h2 : 5 + k % 9 = 6) (sl pos num id' gr : Int) (s : ByteArray) (hid' : 0 ≤ id' ∧ id' < 4294967296) (rd : Nat) (hr : rd ≤ 4) (w : World) : Calls Tryz.prog 10 #[OpV.v ⟨k, sl, pos, num, id', gr, s⟩, .int .i64 rd] w (ClnOut rd w) := by
  have d3 : decide (k < 5) = false := decide_eq_false (by omega)
  have d4 : decide (13 < k) = true := decide_eq_true h1
  have w8 : IntKind.u8.wrap (5 + k % 9) = 5 + k % 9 := by simp [IntKind.wrap, IntKind.signed, IntKind.bits]; omega
  rcases Nat.eq_zero_or_pos rd with h9 | h9
  · subst h9
    simp only [OpV.v]
    go_enter Tryz.func10, Tryz.ntmps10
    go_wp2_with fail
    refine bodyPost_ret (v := .tuple #[OpV.v ⟨6, 0, 0, 0, 0, 0, ⟨#[]⟩⟩, .bool false]) (by simp [results, Tryz.results10, go_sem, OpV.v]) rfl ⟨_, false, rfl, ?_, .inr ⟨rfl, rfl⟩⟩
    repeat (refine Ch.alloc ?_ _)
    exact Ch.refl _ w
  · have hr1 : (rd : Int) ≠ 0 := by omega
    have d1 : decide ((rd : Int) < 1) = false := decide_eq_false (by omega)
    have d2 : decide (rd < 1) = false := decide_eq_false (by omega)
    obtain ⟨sk, eS, hsk⟩ := tmod_pos (a := sl) (b := (rd : Int)) (by omega) (by omega)
    have hsk : sk < rd := by omega
    simp only [OpV.v]
    go_enter Tryz.func10, Tryz.ntmps10
    go_wp2_with fail
    refine bodyPost_ret (v := .tuple #[OpV.v (Cop.op (.len sk)), .bool true]) (by simp [results, Tryz.results10, go_sem, OpV.v, Cop.op, acqOp]) rfl ⟨_, true, rfl, ?_, .inl ⟨rfl, .len sk, rfl, hsk⟩⟩
    repeat (refine Ch.alloc ?_ _)
    exact Ch.refl _ w
set_option maxRecDepth 100000 in
set_option maxHeartbeats 2000000 in
theorem lclean_7i (sl pos num id' gr : Int) (s : ByteArray) (hid' : 0 ≤ id' ∧ id' < 4294967296) (rd : Nat) (hr : rd ≤ 4) (w : World) : Calls Tryz.prog 10 #[OpV.v ⟨7, sl, pos, num, id', gr, s⟩, .int .i64 rd] w (ClnOut rd w) := by
  rcases Nat.eq_zero_or_pos rd with h9 | h9
  · subst h9
    simp only [OpV.v]
    go_enter Tryz.func10, Tryz.ntmps10
    go_wp2_with fail
    refine bodyPost_ret (v := .tuple #[OpV.v ⟨7, 0, 0, 0, 0, 0, ⟨#[]⟩⟩, .bool false]) (by simp [results, Tryz.results10, go_sem, OpV.v]) rfl ⟨_, false, rfl, ?_, .inr ⟨rfl, rfl⟩⟩
    repeat (refine Ch.alloc ?_ _)
    exact Ch.refl _ w
  · have hr1 : (rd : Int) ≠ 0 := by omega
    have d1 : decide ((rd : Int) < 1) = false := decide_eq_false (by omega)
    have d2 : decide (rd < 1) = false := decide_eq_false (by omega)
    obtain ⟨sk, eS, hsk⟩ := tmod_pos (a := sl) (b := (rd : Int)) (by omega) (by omega)
    have hsk : sk < rd := by omega
    obtain ⟨sa, eA, hsa⟩ := tmod_pos (a := pos) (b := 150) (by decide) (by decide)
    have hsa : sa < 150 := by omega
    obtain ⟨sb, eB, hsb⟩ := tmod_pos (a := num) (b := 150) (by decide) (by decide)
    have hsb : sb < 150 := by omega
    simp only [OpV.v]
    go_enter Tryz.func10, Tryz.ntmps10
    go_wp2_with fail
    refine bodyPost_ret (v := .tuple #[OpV.v (Cop.op (.read sk sa sb)), .bool true]) (by simp [results, Tryz.results10, go_sem, OpV.v, Cop.op, acqOp]) rfl ⟨_, true, rfl, ?_, .inl ⟨rfl, .read sk sa sb, rfl, ⟨hsk, hsa, hsb⟩⟩⟩
    repeat (refine Ch.alloc ?_ _)
    exact Ch.refl _ w
set_option maxRecDepth 100000 in
set_option maxHeartbeats 2000000 in
theorem lclean_7l (k : Int) (h0 : 0 ≤ k) (h1 : k < 5) (h2 : 5 + k % 9 = 7) (sl pos num id' gr : Int) (s : ByteArray) (hid' : 0 ≤ id' ∧ id' < 4294967296) (rd : Nat) (hr : rd ≤ 4) (w : World) : Calls Tryz.prog 10 #[OpV.v ⟨k, sl, pos, num, id', gr, s⟩, .int .i64 rd] w (ClnOut rd w) := by
  have d3 : decide (k < 5) = true := decide_eq_true h1
  clear h1
  rcases Nat.eq_zero_or_pos rd with h9 | h9
  · subst h9
    simp only [OpV.v]
    go_enter Tryz.func10, Tryz.ntmps10
    go_wp2_with fail
    refine bodyPost_ret (v := .tuple #[OpV.v ⟨7, 0, 0, 0, 0, 0, ⟨#[]⟩⟩, .bool false]) (by simp [results, Tryz.results10, go_sem, OpV.v]) rfl ⟨_, false, rfl, ?_, .inr ⟨rfl, rfl⟩⟩
    repeat (refine Ch.alloc ?_ _)
    exact Ch.refl _ w
  · have hr1 : (rd : Int) ≠ 0 := by omega
    have d1 : decide ((rd : Int) < 1) = false := decide_eq_false (by omega)
    have d2 : decide (rd < 1) = false := decide_eq_false (by omega)
    obtain ⟨sk, eS, hsk⟩ := tmod_pos (a := sl) (b := (rd : Int)) (by omega) (by omega)
    have hsk : sk < rd := by omega
    obtain ⟨sa, eA, hsa⟩ := tmod_pos (a := pos) (b := 150) (by decide) (by decide)
    have hsa : sa < 150 := by omega
    obtain ⟨sb, eB, hsb⟩ := tmod_pos (a := num) (b := 150) (by decide) (by decide)
    have hsb : sb < 150 := by omega
    simp only [OpV.v]
    go_enter Tryz.func10, Tryz.ntmps10
    go_wp2_with fail
    refine bodyPost_ret (v := .tuple #[OpV.v (Cop.op (.read sk sa sb)), .bool true]) (by simp [results, Tryz.results10, go_sem, OpV.v, Cop.op, acqOp]) rfl ⟨_, true, rfl, ?_, .inl ⟨rfl, .read sk sa sb, rfl, ⟨hsk, hsa, hsb⟩⟩⟩
    repeat (refine Ch.alloc ?_ _)
    exact Ch.refl _ w
set_option maxRecDepth 100000 in
set_option maxHeartbeats 2000000 in
theorem lclean_7g (k : Int) (h0 : 0 ≤ k) (h1 : 13 < k) (h3 : k < 256) (h2 : 5 + k % 9 = 7) (sl pos num id' gr : Int) (s : ByteArray) (hid' : 0 ≤ id' ∧ id' < 4294967296) (rd : Nat) (hr : rd ≤ 4) (w : World) : Calls Tryz.prog 10 #[OpV.v ⟨k, sl, pos, num, id', gr, s⟩, .int .i64 rd] w (ClnOut rd w) := by
  have d3 : decide (k < 5) = false := decide_eq_false (by omega)
  have d4 : decide (13 < k) = true := decide_eq_true h1
  have w8 : IntKind.u8.wrap (5 + k % 9) = 5 + k % 9 := by simp [IntKind.wrap, IntKind.signed, IntKind.bits]; omega
  rcases Nat.eq_zero_or_pos rd with h9 | h9
  · subst h9
    simp only [OpV.v]
    go_enter Tryz.func10, Tryz.ntmps10
    go_wp2_with fail
    refine bodyPost_ret (v := .tuple #[OpV.v ⟨7, 0, 0, 0, 0, 0, ⟨#[]⟩⟩, .bool false]) (by simp [results, Tryz.results10, go_sem, OpV.v]) rfl ⟨_, false, rfl, ?_, .inr ⟨rfl, rfl⟩⟩
    repeat (refine Ch.alloc ?_ _)
    exact Ch.refl _ w
  · have hr1 : (rd : Int) ≠ 0 := by omega
    have d1 : decide ((rd : Int) < 1) = false := decide_eq_false (by omega)
    have d2 : decide (rd < 1) = false := decide_eq_false (by omega)
    obtain ⟨sk, eS, hsk⟩ := tmod_pos (a := sl) (b := (rd : Int)) (by omega) (by omega)
    have hsk : sk < rd := by omega
    obtain ⟨sa, eA, hsa⟩ := tmod_pos (a := pos) (b := 150) (by decide) (by decide)
    have hsa : sa < 150 := by omega
    obtain ⟨sb, eB, hsb⟩ := tmod_pos (a := num) (b := 150) (by decide) (by decide)
    have hsb : sb < 150 := by omega
    simp only [OpV.v]
    go_enter Tryz.func10, Tryz.ntmps10
    go_wp2_with fail
    refine bodyPost_ret (v := .tuple #[OpV.v (Cop.op (.read sk sa sb)), .bool true]) (by simp [results, Tryz.results10, go_sem, OpV.v, Cop.op, acqOp]) rfl ⟨_, true, rfl, ?_, .inl ⟨rfl, .read sk sa sb, rfl, ⟨hsk, hsa, hsb⟩⟩⟩
    repeat (refine Ch.alloc ?_ _)
    exact Ch.refl _ w
set_option maxRecDepth 100000 in
set_option maxHeartbeats 2000000 in
theorem lclean_8i (sl pos num id' gr : Int) (s : ByteArray) (hid' : 0 ≤ id' ∧ id' < 4294967296) (rd : Nat) (hr : rd ≤ 4) (w : World) : Calls Tryz.prog 10 #[OpV.v ⟨8, sl, pos, num, id', gr, s⟩, .int .i64 rd] w (ClnOut rd w) := by
  rcases Nat.eq_zero_or_pos rd with h9 | h9
  · subst h9
    simp only [OpV.v]
    go_enter Tryz.func10, Tryz.ntmps10
    go_wp2_with fail
    refine bodyPost_ret (v := .tuple #[OpV.v ⟨8, 0, 0, 0, 0, 0, ⟨#[]⟩⟩, .bool false]) (by simp [results, Tryz.results10, go_sem, OpV.v]) rfl ⟨_, false, rfl, ?_, .inr ⟨rfl, rfl⟩⟩
    repeat (refine Ch.alloc ?_ _)
    exact Ch.refl _ w
  · have hr1 : (rd : Int) ≠ 0 := by omega
    have d1 : decide ((rd : Int) < 1) = false := decide_eq_false (by omega)
    have d2 : decide (rd < 1) = false := decide_eq_false (by omega)
    obtain ⟨sk, eS, hsk⟩ := tmod_pos (a := sl) (b := (rd : Int)) (by omega) (by omega)
    have hsk : sk < rd := by omega
    obtain ⟨sb, eB, hsb⟩ := tmod_pos (a := num) (b := 150) (by decide) (by decide)
    have hsb : sb < 150 := by omega
    simp only [OpV.v]
    go_enter Tryz.func10, Tryz.ntmps10
    go_wp2_with fail
    refine bodyPost_ret (v := .tuple #[OpV.v (Cop.op (.rune sk sb)), .bool true]) (by simp [results, Tryz.results10, go_sem, OpV.v, Cop.op, acqOp]) rfl ⟨_, true, rfl, ?_, .inl ⟨rfl, .rune sk sb, rfl, ⟨hsk, hsb⟩⟩⟩
    repeat (refine Ch.alloc ?_ _)
    exact Ch.refl _ w
set_option maxRecDepth 100000 in
set_option maxHeartbeats 2000000 in
theorem lclean_8l (k : Int) (h0 : 0 ≤ k) (h1 : k < 5) (h2 : 5 + k % 9 = 8) (sl pos num id' gr : Int) (s : ByteArray) (hid' : 0 ≤ id' ∧ id' < 4294967296) (rd : Nat) (hr : rd ≤ 4) (w : World) : Calls Tryz.prog 10 #[OpV.v ⟨k, sl, pos, num, id', gr, s⟩, .int .i64 rd] w (ClnOut rd w) := by
  have d3 : decide (k < 5) = true := decide_eq_true h1
  clear h1
  rcases Nat.eq_zero_or_pos rd with h9 | h9
  · subst h9
    simp only [OpV.v]
    go_enter Tryz.func10, Tryz.ntmps10
    go_wp2_with fail
    refine bodyPost_ret (v := .tuple #[OpV.v ⟨8, 0, 0, 0, 0, 0, ⟨#[]⟩⟩, .bool false]) (by simp [results, Tryz.results10, go_sem, OpV.v]) rfl ⟨_, false, rfl, ?_, .inr ⟨rfl, rfl⟩⟩
    repeat (refine Ch.alloc ?_ _)
    exact Ch.refl _ w
  · have hr1 : (rd : Int) ≠ 0 := by omega
    have d1 : decide ((rd : Int) < 1) = false := decide_eq_false (by omega)
    have d2 : decide (rd < 1) = false := decide_eq_false (by omega)
    obtain ⟨sk, eS, hsk⟩ := tmod_pos (a := sl) (b := (rd : Int)) (by omega) (by omega)
    have hsk : sk < rd := by omega
    obtain ⟨sb, eB, hsb⟩ := tmod_pos (a := num) (b := 150) (by decide) (by decide)
    have hsb : sb < 150 := by omega
    simp only [OpV.v]
    go_enter Tryz.func10, Tryz.ntmps10
    go_wp2_with fail
    refine bodyPost_ret (v := .tuple #[OpV.v (Cop.op (.rune sk sb)), .bool true]) (by simp [results, Tryz.results10, go_sem, OpV.v, Cop.op, acqOp]) rfl ⟨_, true, rfl, ?_, .inl ⟨rfl, .rune sk sb, rfl, ⟨hsk, hsb⟩⟩⟩
    repeat (refine Ch.alloc ?_ _)
    exact Ch.refl _ w
set_option maxRecDepth 100000 in
set_option maxHeartbeats 2000000 in
theorem lclean_8g (k : Int) (h0 : 0 ≤ k) (h1 : 13 < k) (h3 : k < 256) (h2 : 5 + k % 9 = 8) (sl pos num id' gr : Int) (s : ByteArray) (hid' : 0 ≤ id' ∧ id' < 4294967296) (rd : Nat) (hr : rd ≤ 4) (w : World) : Calls Tryz.prog 10 #[OpV.v ⟨k, sl, pos, num, id', gr, s⟩, .int .i64 rd] w (ClnOut rd w) := by
  have d3 : decide (k < 5) = false := decide_eq_false (by omega)
  have d4 : decide (13 < k) = true := decide_eq_true h1
  have w8 : IntKind.u8.wrap (5 + k % 9) = 5 + k % 9 := by simp [IntKind.wrap, IntKind.signed, IntKind.bits]; omega
  rcases Nat.eq_zero_or_pos rd with h9 | h9
  · subst h9
    simp only [OpV.v]
    go_enter Tryz.func10, Tryz.ntmps10
    go_wp2_with fail
    refine bodyPost_ret (v := .tuple #[OpV.v ⟨8, 0, 0, 0, 0, 0, ⟨#[]⟩⟩, .bool false]) (by simp [results, Tryz.results10, go_sem, OpV.v]) rfl ⟨_, false, rfl, ?_, .inr ⟨rfl, rfl⟩⟩
    repeat (refine Ch.alloc ?_ _)
    exact Ch.refl _ w
  · have hr1 : (rd : Int) ≠ 0 := by omega
    have d1 : decide ((rd : Int) < 1) = false := decide_eq_false (by omega)
    have d2 : decide (rd < 1) = false := decide_eq_false (by omega)
    obtain ⟨sk, eS, hsk⟩ := tmod_pos (a := sl) (b := (rd : Int)) (by omega) (by omega)
    have hsk : sk < rd := by omega
    obtain ⟨sb, eB, hsb⟩ := tmod_pos (a := num) (b := 150) (by decide) (by decide)
    have hsb : sb < 150 := by omega
    simp only [OpV.v]
    go_enter Tryz.func10, Tryz.ntmps10
    go_wp2_with fail
    refine bodyPost_ret (v := .tuple #[OpV.v (Cop.op (.rune sk sb)), .bool true]) (by simp [results, Tryz.results10, go_sem, OpV.v, Cop.op, acqOp]) rfl ⟨_, true, rfl, ?_, .inl ⟨rfl, .rune sk sb, rfl, ⟨hsk, hsb⟩⟩⟩
    repeat (refine Ch.alloc ?_ _)
    exact Ch.refl _ w
set_option maxRecDepth 100000 in
set_option maxHeartbeats 2000000 in
theorem lclean_9i (sl pos num id' gr : Int) (s : ByteArray) (hid' : 0 ≤ id' ∧ id' < 4294967296) (rd : Nat) (hr : rd ≤ 4) (w : World) : Calls Tryz.prog 10 #[OpV.v ⟨9, sl, pos, num, id', gr, s⟩, .int .i64 rd] w (ClnOut rd w) := by
  rcases Nat.eq_zero_or_pos rd with h9 | h9
  · subst h9
    simp only [OpV.v]
    go_enter Tryz.func10, Tryz.ntmps10
    go_wp2_with fail
    refine bodyPost_ret (v := .tuple #[OpV.v ⟨9, 0, 0, 0, 0, 0, ⟨#[]⟩⟩, .bool false]) (by simp [results, Tryz.results10, go_sem, OpV.v]) rfl ⟨_, false, rfl, ?_, .inr ⟨rfl, rfl⟩⟩
    repeat (refine Ch.alloc ?_ _)
    exact Ch.refl _ w
  · have hr1 : (rd : Int) ≠ 0 := by omega
    have d1 : decide ((rd : Int) < 1) = false := decide_eq_false (by omega)
    have d2 : decide (rd < 1) = false := decide_eq_false (by omega)
    obtain ⟨sk, eS, hsk⟩ := tmod_pos (a := sl) (b := (rd : Int)) (by omega) (by omega)
    have hsk : sk < rd := by omega
    obtain ⟨sb, eB, hsb⟩ := tmod_pos (a := num) (b := 150) (by decide) (by decide)
    have hsb : sb < 150 := by omega
    simp only [OpV.v]
    go_enter Tryz.func10, Tryz.ntmps10
    go_wp2_with fail
    refine bodyPost_ret (v := .tuple #[OpV.v (Cop.op (.line sk sb)), .bool true]) (by simp [results, Tryz.results10, go_sem, OpV.v, Cop.op, acqOp]) rfl ⟨_, true, rfl, ?_, .inl ⟨rfl, .line sk sb, rfl, ⟨hsk, hsb⟩⟩⟩
    repeat (refine Ch.alloc ?_ _)
    exact Ch.refl _ w
set_option maxRecDepth 100000 in
set_option maxHeartbeats 2000000 in
theorem lclean_9l (k : Int) (h0 : 0 ≤ k) (h1 : k < 5) (h2 : 5 + k % 9 = 9) (sl pos num id' gr : Int) (s : ByteArray) (hid' : 0 ≤ id' ∧ id' < 4294967296) (rd : Nat) (hr : rd ≤ 4) (w : World) : Calls Tryz.prog 10 #[OpV.v ⟨k, sl, pos, num, id', gr, s⟩, .int .i64 rd] w (ClnOut rd w) := by
  have d3 : decide (k < 5) = true := decide_eq_true h1
  clear h1
  rcases Nat.eq_zero_or_pos rd with h9 | h9
  · subst h9
    simp only [OpV.v]
    go_enter Tryz.func10, Tryz.ntmps10
    go_wp2_with fail
    refine bodyPost_ret (v := .tuple #[OpV.v ⟨9, 0, 0, 0, 0, 0, ⟨#[]⟩⟩, .bool false]) (by simp [results, Tryz.results10, go_sem, OpV.v]) rfl ⟨_, false, rfl, ?_, .inr ⟨rfl, rfl⟩⟩
    repeat (refine Ch.alloc ?_ _)
    exact Ch.refl _ w
  · have hr1 : (rd : Int) ≠ 0 := by omega
    have d1 : decide ((rd : Int) < 1) = false := decide_eq_false (by omega)
    have d2 : decide (rd < 1) = false := decide_eq_false (by omega)
    obtain ⟨sk, eS, hsk⟩ := tmod_pos (a := sl) (b := (rd : Int)) (by omega) (by omega)
    have hsk : sk < rd := by omega
    obtain ⟨sb, eB, hsb⟩ := tmod_pos (a := num) (b := 150) (by decide) (by decide)
    have hsb : sb < 150 := by omega
    simp only [OpV.v]
    go_enter Tryz.func10, Tryz.ntmps10
    go_wp2_with fail
    refine bodyPost_ret (v := .tuple #[OpV.v (Cop.op (.line sk sb)), .bool true]) (by simp [results, Tryz.results10, go_sem, OpV.v, Cop.op, acqOp]) rfl ⟨_, true, rfl, ?_, .inl ⟨rfl, .line sk sb, rfl, ⟨hsk, hsb⟩⟩⟩
    repeat (refine Ch.alloc ?_ _)
    exact Ch.refl _ w
set_option maxRecDepth 100000 in
set_option maxHeartbeats 2000000 in
theorem lclean_9g (k : Int) (h0 : 0 ≤ k) (h1 : 13 < k) (h3 : k < 256) (h2 : 5 + k % 9 = 9) (sl pos num id' gr : Int) (s : ByteArray) (hid' : 0 ≤ id' ∧ id' < 4294967296) (rd : Nat) (hr : rd ≤ 4) (w : World) : Calls Tryz.prog 10 #[OpV.v ⟨k, sl, pos, num, id', gr, s⟩, .int .i64 rd] w (ClnOut rd w) := by
  have d3 : decide (k < 5) = false := decide_eq_false (by omega)
  have d4 : decide (13 < k) = true := decide_eq_true h1
  have w8 : IntKind.u8.wrap (5 + k % 9) = 5 + k % 9 := by simp [IntKind.wrap, IntKind.signed, IntKind.bits]; omega
  rcases Nat.eq_zero_or_pos rd with h9 | h9
  · subst h9
    simp only [OpV.v]
    go_enter Tryz.func10, Tryz.ntmps10
    go_wp2_with fail
    refine bodyPost_ret (v := .tuple #[OpV.v ⟨9, 0, 0, 0, 0, 0, ⟨#[]⟩⟩, .bool false]) (by simp [results, Tryz.results10, go_sem, OpV.v]) rfl ⟨_, false, rfl, ?_, .inr ⟨rfl, rfl⟩⟩
    repeat (refine Ch.alloc ?_ _)
    exact Ch.refl _ w
  · have hr1 : (rd : Int) ≠ 0 := by omega
    have d1 : decide ((rd : Int) < 1) = false := decide_eq_false (by omega)
    have d2 : decide (rd < 1) = false := decide_eq_false (by omega)
    obtain ⟨sk, eS, hsk⟩ := tmod_pos (a := sl) (b := (rd : Int)) (by omega) (by omega)
    have hsk : sk < rd := by omega
    obtain ⟨sb, eB, hsb⟩ := tmod_pos (a := num) (b := 150) (by decide) (by decide)
    have hsb : sb < 150 := by omega
    simp only [OpV.v]
    go_enter Tryz.func10, Tryz.ntmps10
    go_wp2_with fail
    refine bodyPost_ret (v := .tuple #[OpV.v (Cop.op (.line sk sb)), .bool true]) (by simp [results, Tryz.results10, go_sem, OpV.v, Cop.op, acqOp]) rfl ⟨_, true, rfl, ?_, .inl ⟨rfl, .line sk sb, rfl, ⟨hsk, hsb⟩⟩⟩
    repeat (refine Ch.alloc ?_ _)
    exact Ch.refl _ w
set_option maxRecDepth 100000 in
set_option maxHeartbeats 2000000 in
theorem lclean_10i (sl pos num id' gr : Int) (s : ByteArray) (hid' : 0 ≤ id' ∧ id' < 4294967296) (rd : Nat) (hr : rd ≤ 4) (w : World) : Calls Tryz.prog 10 #[OpV.v ⟨10, sl, pos, num, id', gr, s⟩, .int .i64 rd] w (ClnOut rd w) := by
  rcases Nat.eq_zero_or_pos rd with h9 | h9
  · subst h9
    simp only [OpV.v]
    go_enter Tryz.func10, Tryz.ntmps10
    go_wp2_with fail
    refine bodyPost_ret (v := .tuple #[OpV.v ⟨10, 0, 0, 0, 0, 0, ⟨#[]⟩⟩, .bool false]) (by simp [results, Tryz.results10, go_sem, OpV.v]) rfl ⟨_, false, rfl, ?_, .inr ⟨rfl, rfl⟩⟩
    repeat (refine Ch.alloc ?_ _)
    exact Ch.refl _ w
  · have hr1 : (rd : Int) ≠ 0 := by omega
    have d1 : decide ((rd : Int) < 1) = false := decide_eq_false (by omega)
    have d2 : decide (rd < 1) = false := decide_eq_false (by omega)
    obtain ⟨sk, eS, hsk⟩ := tmod_pos (a := sl) (b := (rd : Int)) (by omega) (by omega)
    have hsk : sk < rd := by omega
    have w32 : IntKind.u32.wrap (id' % 6 + 1) = id' % 6 + 1 := by simp [IntKind.wrap, IntKind.signed, IntKind.bits]; omega
    simp only [OpV.v]
    go_enter Tryz.func10, Tryz.ntmps10
    go_wp2_with fail
    refine bodyPost_ret (v := .tuple #[OpV.v (Cop.op (.mark sk (id' % 6 + 1))), .bool true]) (by simp [results, Tryz.results10, go_sem, OpV.v, Cop.op, acqOp]) rfl ⟨_, true, rfl, ?_, .inl ⟨rfl, .mark sk (id' % 6 + 1), rfl, ⟨hsk, by omega, by omega⟩⟩⟩
    repeat (refine Ch.alloc ?_ _)
    exact Ch.refl _ w
set_option maxRecDepth 100000 in
set_option maxHeartbeats 2000000 in
theorem lclean_10g (k : Int) (h0 : 0 ≤ k) (h1 : 13 < k) (h3 : k < 256) (h2 : 5 + k % 9 = 10) (sl pos num id' gr : Int) (s : ByteArray) (hid' : 0 ≤ id' ∧ id' < 4294967296) (rd : Nat) (hr : rd ≤ 4) (w : World) : Calls Tryz.prog 10 #[OpV.v ⟨k, sl, pos, num, id', gr, s⟩, .int .i64 rd] w (ClnOut rd w) := by
  have d3 : decide (k < 5) = false := decide_eq_false (by omega)
  have d4 : decide (13 < k) = true := decide_eq_true h1
  have w8 : IntKind.u8.wrap (5 + k % 9) = 5 + k % 9 := by simp [IntKind.wrap, IntKind.signed, IntKind.bits]; omega
  rcases Nat.eq_zero_or_pos rd with h9 | h9
  · subst h9
    simp only [OpV.v]
    go_enter Tryz.func10, Tryz.ntmps10
    go_wp2_with fail
    refine bodyPost_ret (v := .tuple #[OpV.v ⟨10, 0, 0, 0, 0, 0, ⟨#[]⟩⟩, .bool false]) (by simp [results, Tryz.results10, go_sem, OpV.v]) rfl ⟨_, false, rfl, ?_, .inr ⟨rfl, rfl⟩⟩
    repeat (refine Ch.alloc ?_ _)
    exact Ch.refl _ w
  · have hr1 : (rd : Int) ≠ 0 := by omega
    have d1 : decide ((rd : Int) < 1) = false := decide_eq_false (by omega)
    have d2 : decide (rd < 1) = false := decide_eq_false (by omega)
    obtain ⟨sk, eS, hsk⟩ := tmod_pos (a := sl) (b := (rd : Int)) (by omega) (by omega)
    have hsk : sk < rd := by omega
    have w32 : IntKind.u32.wrap (id' % 6 + 1) = id' % 6 + 1 := by simp [IntKind.wrap, IntKind.signed, IntKind.bits]; omega
    simp only [OpV.v]
    go_enter Tryz.func10, Tryz.ntmps10
    go_wp2_with fail
    refine bodyPost_ret (v := .tuple #[OpV.v (Cop.op (.mark sk (id' % 6 + 1))), .bool true]) (by simp [results, Tryz.results10, go_sem, OpV.v, Cop.op, acqOp]) rfl ⟨_, true, rfl, ?_, .inl ⟨rfl, .mark sk (id' % 6 + 1), rfl, ⟨hsk, by omega, by omega⟩⟩⟩
    repeat (refine Ch.alloc ?_ _)
    exact Ch.refl _ w
set_option maxRecDepth 100000 in
set_option maxHeartbeats 2000000 in
theorem lclean_11i (sl pos num id' gr : Int) (s : ByteArray) (hid' : 0 ≤ id' ∧ id' < 4294967296) (rd : Nat) (hr : rd ≤ 4) (w : World) : Calls Tryz.prog 10 #[OpV.v ⟨11, sl, pos, num, id', gr, s⟩, .int .i64 rd] w (ClnOut rd w) := by
  rcases Nat.eq_zero_or_pos rd with h9 | h9
  · subst h9
    simp only [OpV.v]
    go_enter Tryz.func10, Tryz.ntmps10
    go_wp2_with fail
    refine bodyPost_ret (v := .tuple #[OpV.v ⟨11, 0, 0, 0, 0, 0, ⟨#[]⟩⟩, .bool false]) (by simp [results, Tryz.results10, go_sem, OpV.v]) rfl ⟨_, false, rfl, ?_, .inr ⟨rfl, rfl⟩⟩
    repeat (refine Ch.alloc ?_ _)
    exact Ch.refl _ w
  · have hr1 : (rd : Int) ≠ 0 := by omega
    have d1 : decide ((rd : Int) < 1) = false := decide_eq_false (by omega)
    have d2 : decide (rd < 1) = false := decide_eq_false (by omega)
    obtain ⟨sk, eS, hsk⟩ := tmod_pos (a := sl) (b := (rd : Int)) (by omega) (by omega)
    have hsk : sk < rd := by omega
    obtain ⟨sa, eA, hsa⟩ := tmod_pos (a := pos) (b := 150) (by decide) (by decide)
    have hsa : sa < 150 := by omega
    simp only [OpV.v]
    go_enter Tryz.func10, Tryz.ntmps10
    go_wp2_with fail
    refine bodyPost_ret (v := .tuple #[OpV.v (Cop.op (.seek sk sa)), .bool true]) (by simp [results, Tryz.results10, go_sem, OpV.v, Cop.op, acqOp]) rfl ⟨_, true, rfl, ?_, .inl ⟨rfl, .seek sk sa, rfl, ⟨hsk, hsa⟩⟩⟩
    repeat (refine Ch.alloc ?_ _)
    exact Ch.refl _ w
set_option maxRecDepth 100000 in
set_option maxHeartbeats 2000000 in
theorem lclean_11g (k : Int) (h0 : 0 ≤ k) (h1 : 13 < k) (h3 : k < 256) (h2 : 5 + k % 9 = 11) (sl pos num id' gr : Int) (s : ByteArray) (hid' : 0 ≤ id' ∧ id' < 4294967296) (rd : Nat) (hr : rd ≤ 4) (w : World) : Calls Tryz.prog 10 #[OpV.v ⟨k, sl, pos, num, id', gr, s⟩, .int .i64 rd] w (ClnOut rd w) := by
  have d3 : decide (k < 5) = false := decide_eq_false (by omega)
  have d4 : decide (13 < k) = true := decide_eq_true h1
  have w8 : IntKind.u8.wrap (5 + k % 9) = 5 + k % 9 := by simp [IntKind.wrap, IntKind.signed, IntKind.bits]; omega
  rcases Nat.eq_zero_or_pos rd with h9 | h9
  · subst h9
    simp only [OpV.v]
    go_enter Tryz.func10, Tryz.ntmps10
    go_wp2_with fail
    refine bodyPost_ret (v := .tuple #[OpV.v ⟨11, 0, 0, 0, 0, 0, ⟨#[]⟩⟩, .bool false]) (by simp [results, Tryz.results10, go_sem, OpV.v]) rfl ⟨_, false, rfl, ?_, .inr ⟨rfl, rfl⟩⟩
    repeat (refine Ch.alloc ?_ _)
    exact Ch.refl _ w
  · have hr1 : (rd : Int) ≠ 0 := by omega
    have d1 : decide ((rd : Int) < 1) = false := decide_eq_false (by omega)
    have d2 : decide (rd < 1) = false := decide_eq_false (by omega)
    obtain ⟨sk, eS, hsk⟩ := tmod_pos (a := sl) (b := (rd : Int)) (by omega) (by omega)
    have hsk : sk < rd := by omega
    obtain ⟨sa, eA, hsa⟩ := tmod_pos (a := pos) (b := 150) (by decide) (by decide)
    have hsa : sa < 150 := by omega
    simp only [OpV.v]
    go_enter Tryz.func10, Tryz.ntmps10
    go_wp2_with fail
    refine bodyPost_ret (v := .tuple #[OpV.v (Cop.op (.seek sk sa)), .bool true]) (by simp [results, Tryz.results10, go_sem, OpV.v, Cop.op, acqOp]) rfl ⟨_, true, rfl, ?_, .inl ⟨rfl, .seek sk sa, rfl, ⟨hsk, hsa⟩⟩⟩
    repeat (refine Ch.alloc ?_ _)
    exact Ch.refl _ w
set_option maxRecDepth 100000 in
set_option maxHeartbeats 2000000 in
theorem lclean_12i (sl pos num id' gr : Int) (s : ByteArray) (hid' : 0 ≤ id' ∧ id' < 4294967296) (rd : Nat) (hr : rd ≤ 4) (w : World) : Calls Tryz.prog 10 #[OpV.v ⟨12, sl, pos, num, id', gr, s⟩, .int .i64 rd] w (ClnOut rd w) := by
  rcases Nat.eq_zero_or_pos rd with h9 | h9
  · subst h9
    simp only [OpV.v]
    go_enter Tryz.func10, Tryz.ntmps10
    go_wp2_with fail
    refine bodyPost_ret (v := .tuple #[OpV.v ⟨12, 0, 0, 0, 0, 0, ⟨#[]⟩⟩, .bool false]) (by simp [results, Tryz.results10, go_sem, OpV.v]) rfl ⟨_, false, rfl, ?_, .inr ⟨rfl, rfl⟩⟩
    repeat (refine Ch.alloc ?_ _)
    exact Ch.refl _ w
  · have hr1 : (rd : Int) ≠ 0 := by omega
    have d1 : decide ((rd : Int) < 1) = false := decide_eq_false (by omega)
    have d2 : decide (rd < 1) = false := decide_eq_false (by omega)
    obtain ⟨sk, eS, hsk⟩ := tmod_pos (a := sl) (b := (rd : Int)) (by omega) (by omega)
    have hsk : sk < rd := by omega
    obtain ⟨sb, eB, hsb⟩ := tmod_pos (a := num) (b := 150) (by decide) (by decide)
    have hsb : sb < 150 := by omega
    simp only [OpV.v]
    go_enter Tryz.func10, Tryz.ntmps10
    go_wp2_with fail
    refine bodyPost_ret (v := .tuple #[OpV.v (Cop.op (.next sk sb)), .bool true]) (by simp [results, Tryz.results10, go_sem, OpV.v, Cop.op, acqOp]) rfl ⟨_, true, rfl, ?_, .inl ⟨rfl, .next sk sb, rfl, ⟨hsk, hsb⟩⟩⟩
    repeat (refine Ch.alloc ?_ _)
    exact Ch.refl _ w
set_option maxRecDepth 100000 in
set_option maxHeartbeats 2000000 in
theorem lclean_12g (k : Int) (h0 : 0 ≤ k) (h1 : 13 < k) (h3 : k < 256) (h2 : 5 + k % 9 = 12) (sl pos num id' gr : Int) (s : ByteArray) (hid' : 0 ≤ id' ∧ id' < 4294967296) (rd : Nat) (hr : rd ≤ 4) (w : World) : Calls Tryz.prog 10 #[OpV.v ⟨k, sl, pos, num, id', gr, s⟩, .int .i64 rd] w (ClnOut rd w) := by
  have d3 : decide (k < 5) = false := decide_eq_false (by omega)
  have d4 : decide (13 < k) = true := decide_eq_true h1
  have w8 : IntKind.u8.wrap (5 + k % 9) = 5 + k % 9 := by simp [IntKind.wrap, IntKind.signed, IntKind.bits]; omega
  rcases Nat.eq_zero_or_pos rd with h9 | h9
  · subst h9
    simp only [OpV.v]
    go_enter Tryz.func10, Tryz.ntmps10
    go_wp2_with fail
    refine bodyPost_ret (v := .tuple #[OpV.v ⟨12, 0, 0, 0, 0, 0, ⟨#[]⟩⟩, .bool false]) (by simp [results, Tryz.results10, go_sem, OpV.v]) rfl ⟨_, false, rfl, ?_, .inr ⟨rfl, rfl⟩⟩
    repeat (refine Ch.alloc ?_ _)
    exact Ch.refl _ w
  · have hr1 : (rd : Int) ≠ 0 := by omega
    have d1 : decide ((rd : Int) < 1) = false := decide_eq_false (by omega)
    have d2 : decide (rd < 1) = false := decide_eq_false (by omega)
    obtain ⟨sk, eS, hsk⟩ := tmod_pos (a := sl) (b := (rd : Int)) (by omega) (by omega)
    have hsk : sk < rd := by omega
    obtain ⟨sb, eB, hsb⟩ := tmod_pos (a := num) (b := 150) (by decide) (by decide)
    have hsb : sb < 150 := by omega
    simp only [OpV.v]
    go_enter Tryz.func10, Tryz.ntmps10
    go_wp2_with fail
    refine bodyPost_ret (v := .tuple #[OpV.v (Cop.op (.next sk sb)), .bool true]) (by simp [results, Tryz.results10, go_sem, OpV.v, Cop.op, acqOp]) rfl ⟨_, true, rfl, ?_, .inl ⟨rfl, .next sk sb, rfl, ⟨hsk, hsb⟩⟩⟩
    repeat (refine Ch.alloc ?_ _)
    exact Ch.refl _ w
set_option maxRecDepth 100000 in
set_option maxHeartbeats 2000000 in
theorem lclean_13i (sl pos num id' gr : Int) (s : ByteArray) (hid' : 0 ≤ id' ∧ id' < 4294967296) (rd : Nat) (hr : rd ≤ 4) (w : World) : Calls Tryz.prog 10 #[OpV.v ⟨13, sl, pos, num, id', gr, s⟩, .int .i64 rd] w (ClnOut rd w) := by
  rcases Nat.eq_zero_or_pos rd with h9 | h9
  · subst h9
    simp only [OpV.v]
    go_enter Tryz.func10, Tryz.ntmps10
    go_wp2_with fail
    refine bodyPost_ret (v := .tuple #[OpV.v ⟨13, 0, 0, 0, 0, 0, ⟨#[]⟩⟩, .bool false]) (by simp [results, Tryz.results10, go_sem, OpV.v]) rfl ⟨_, false, rfl, ?_, .inr ⟨rfl, rfl⟩⟩
    repeat (refine Ch.alloc ?_ _)
    exact Ch.refl _ w
  · have hr1 : (rd : Int) ≠ 0 := by omega
    have d1 : decide ((rd : Int) < 1) = false := decide_eq_false (by omega)
    have d2 : decide (rd < 1) = false := decide_eq_false (by omega)
    obtain ⟨sk, eS, hsk⟩ := tmod_pos (a := sl) (b := (rd : Int)) (by omega) (by omega)
    have hsk : sk < rd := by omega
    simp only [OpV.v]
    go_enter Tryz.func10, Tryz.ntmps10
    go_wp2_with fail
    refine bodyPost_ret (v := .tuple #[OpV.v (Cop.op (.rel sk)), .bool true]) (by simp [results, Tryz.results10, go_sem, OpV.v, Cop.op, acqOp]) rfl ⟨_, true, rfl, ?_, .inl ⟨rfl, .rel sk, rfl, hsk⟩⟩
    repeat (refine Ch.alloc ?_ _)
    exact Ch.refl _ w
set_option maxRecDepth 100000 in
set_option maxHeartbeats 2000000 in
theorem lclean_13g (k : Int) (h0 : 0 ≤ k) (h1 : 13 < k) (h3 : k < 256) (h2 : 5 + k % 9 = 13) (sl pos num id' gr : Int) (s : ByteArray) (hid' : 0 ≤ id' ∧ id' < 4294967296) (rd : Nat) (hr : rd ≤ 4) (w : World) : Calls Tryz.prog 10 #[OpV.v ⟨k, sl, pos, num, id', gr, s⟩, .int .i64 rd] w (ClnOut rd w) := by
  have d3 : decide (k < 5) = false := decide_eq_false (by omega)
  have d4 : decide (13 < k) = true := decide_eq_true h1
  have w8 : IntKind.u8.wrap (5 + k % 9) = 5 + k % 9 := by simp [IntKind.wrap, IntKind.signed, IntKind.bits]; omega
  rcases Nat.eq_zero_or_pos rd with h9 | h9
  · subst h9
    simp only [OpV.v]
    go_enter Tryz.func10, Tryz.ntmps10
    go_wp2_with fail
    refine bodyPost_ret (v := .tuple #[OpV.v ⟨13, 0, 0, 0, 0, 0, ⟨#[]⟩⟩, .bool false]) (by simp [results, Tryz.results10, go_sem, OpV.v]) rfl ⟨_, false, rfl, ?_, .inr ⟨rfl, rfl⟩⟩
    repeat (refine Ch.alloc ?_ _)
    exact Ch.refl _ w
  · have hr1 : (rd : Int) ≠ 0 := by omega
    have d1 : decide ((rd : Int) < 1) = false := decide_eq_false (by omega)
    have d2 : decide (rd < 1) = false := decide_eq_false (by omega)
    obtain ⟨sk, eS, hsk⟩ := tmod_pos (a := sl) (b := (rd : Int)) (by omega) (by omega)
    have hsk : sk < rd := by omega
    simp only [OpV.v]
    go_enter Tryz.func10, Tryz.ntmps10
    go_wp2_with fail
    refine bodyPost_ret (v := .tuple #[OpV.v (Cop.op (.rel sk)), .bool true]) (by simp [results, Tryz.results10, go_sem, OpV.v, Cop.op, acqOp]) rfl ⟨_, true, rfl, ?_, .inl ⟨rfl, .rel sk, rfl, hsk⟩⟩
    repeat (refine Ch.alloc ?_ _)
    exact Ch.refl _ w
theorem lclean_any (x : OpV) (hx : x.ok) (rd : Nat) (hr : rd ≤ 4) (w : World) : Calls Tryz.prog 10 #[x.v, .int .i64 rd] w (ClnOut rd w) := by
  obtain ⟨k, sl, pos, num, id', gr, s⟩ := x
  have hk := hx.k
  have hi := hx.id
  simp only at hk hi
  clear hx
  rcases Int.lt_or_le k 5 with h1 | h1
  · have : 5 + k % 9 = 5 ∨ 5 + k % 9 = 6 ∨ 5 + k % 9 = 7 ∨ 5 + k % 9 = 8 ∨ 5 + k % 9 = 9 := by omega
    rcases this with h | h | h | h | h
    · exact lclean_5l k hk.1 h1 h sl pos num id' gr s hi rd hr w
    · exact lclean_6l k hk.1 h1 h sl pos num id' gr s hi rd hr w
    · exact lclean_7l k hk.1 h1 h sl pos num id' gr s hi rd hr w
    · exact lclean_8l k hk.1 h1 h sl pos num id' gr s hi rd hr w
    · exact lclean_9l k hk.1 h1 h sl pos num id' gr s hi rd hr w
  · rcases Int.lt_or_le 13 k with h2 | h2
    · have : 5 + k % 9 = 5 ∨ 5 + k % 9 = 6 ∨ 5 + k % 9 = 7 ∨ 5 + k % 9 = 8 ∨ 5 + k % 9 = 9 ∨ 5 + k % 9 = 10 ∨ 5 + k % 9 = 11 ∨ 5 + k % 9 = 12 ∨ 5 + k % 9 = 13 := by omega
      rcases this with h | h | h | h | h | h | h | h | h
      · exact lclean_5g k hk.1 h2 hk.2 h sl pos num id' gr s hi rd hr w
      · exact lclean_6g k hk.1 h2 hk.2 h sl pos num id' gr s hi rd hr w
      · exact lclean_7g k hk.1 h2 hk.2 h sl pos num id' gr s hi rd hr w
      · exact lclean_8g k hk.1 h2 hk.2 h sl pos num id' gr s hi rd hr w
      · exact lclean_9g k hk.1 h2 hk.2 h sl pos num id' gr s hi rd hr w
      · exact lclean_10g k hk.1 h2 hk.2 h sl pos num id' gr s hi rd hr w
      · exact lclean_11g k hk.1 h2 hk.2 h sl pos num id' gr s hi rd hr w
      · exact lclean_12g k hk.1 h2 hk.2 h sl pos num id' gr s hi rd hr w
      · exact lclean_13g k hk.1 h2 hk.2 h sl pos num id' gr s hi rd hr w
    · have : k = 5 ∨ k = 6 ∨ k = 7 ∨ k = 8 ∨ k = 9 ∨ k = 10 ∨ k = 11 ∨ k = 12 ∨ k = 13 := by omega
      rcases this with rfl | rfl | rfl | rfl | rfl | rfl | rfl | rfl | rfl
      · exact lclean_5i sl pos num id' gr s hi rd hr w
      · exact lclean_6i sl pos num id' gr s hi rd hr w
      · exact lclean_7i sl pos num id' gr s hi rd hr w
      · exact lclean_8i sl pos num id' gr s hi rd hr w
      · exact lclean_9i sl pos num id' gr s hi rd hr w
      · exact lclean_10i sl pos num id' gr s hi rd hr w
      · exact lclean_11i sl pos num id' gr s hi rd hr w
      · exact lclean_12i sl pos num id' gr s hi rd hr w
      · exact lclean_13i sl pos num id' gr s hi rd hr w
end Go.Proofs.YtjcdknhejcbpiaaGreat
