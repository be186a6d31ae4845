/- The bank and the reference's bank side by side. -/
import Derived.Test.YtonjbofdmmnpdaaCellE
import Derived.Test.YtonjbofdmmnpdaaRefB
namespace Go.Proofs.Ytonjbofdmmnpdaa
open Go.RowKit
set_option linter.unusedSimpArgs false
set_option linter.unusedVariables false

section
variable (B p vb : Nat) (lv : Value) (s : BS) (t c : Int) (w : World) (h : RBank B w p vb lv s.vs s.lg) (hlen : s.lg.length < 1000000) (hB : B ≤ w.heap.size)
include h hlen hB
theorem rload_any : Calls Try.prog 68 #[.pointer (some ⟨p, 0, none⟩), .int .i64 t, .int .i64 c] w fun e w' => e = .returned (.tuple #[.int .u64 (s.ldv t c), .int .i64 (s.err t c)]) ∧ RStep B w w' p vb lv (s.doLoad t c) := by
  by_cases hk : s.fine t c
  · rw [err_fine hk, BS.ldv, if_pos hk, BS.doLoad, if_pos hk]
    exact rload_ok B p vb lv s t c w h hlen hB hk
  · rw [BS.ldv, if_neg hk, BS.doLoad, if_neg hk]
    exact rload_bad B p vb lv s t c w h hlen hB hk
theorem rstore_any (v : Int) : Calls Try.prog 23 #[.pointer (some ⟨p, 0, none⟩), .int .i64 t, .int .i64 c, .int .u64 v] w fun e w' => e = .returned (.int .i64 (s.err t c)) ∧ RStep B w w' p vb lv (s.doStore t c v) := by
  by_cases hk : s.fine t c
  · rw [err_fine hk, BS.doStore, if_pos hk]
    exact rstore_ok B p vb lv s t c v w h hlen hB hk
  · rw [BS.doStore, if_neg hk]
    exact rstore_bad B p vb lv s t c v w h hlen hB hk
theorem rswap_any (v : Int) : Calls Try.prog 73 #[.pointer (some ⟨p, 0, none⟩), .int .i64 t, .int .i64 c, .int .u64 v] w fun e w' => e = .returned (.tuple #[.int .u64 (s.ldv t c), .int .i64 (s.err t c)]) ∧ RStep B w w' p vb lv (s.doSwap t c v) := by
  by_cases hk : s.fine t c
  · rw [err_fine hk, BS.ldv, if_pos hk, BS.doSwap, if_pos hk]
    exact rswap_ok B p vb lv s t c v w h hlen hB hk
  · rw [BS.ldv, if_neg hk, BS.doSwap, if_neg hk]
    exact rswap_bad B p vb lv s t c v w h hlen hB hk
theorem rcas_any (o v : Int) : Calls Try.prog 69 #[.pointer (some ⟨p, 0, none⟩), .int .i64 t, .int .i64 c, .int .u64 o, .int .u64 v] w fun e w' => e = .returned (.tuple #[.bool (s.casv t c o), .int .i64 (s.err t c)]) ∧ RStep B w w' p vb lv (s.doCas t c o v) := by
  by_cases hk : s.fine t c
  · rw [err_fine hk, BS.casv, if_pos hk, BS.doCas, if_pos hk]
    by_cases ho : lk s.vs c.toNat = o
    · simpa [ho] using rcas_ok1 B p vb lv s t c o v w h hlen hB hk ho
    · simpa [ho] using rcas_ok0 B p vb lv s t c o v w h hlen hB hk ho
  · rw [BS.casv, if_neg hk, BS.doCas, if_neg hk]
    exact rcas_bad B p vb lv s t c o v w h hlen hB hk
end

def BS.has (s : BS) (c : Int) : Bool := decide (0 ≤ c ∧ c < s.vs.length)
def BS.pk (s : BS) (c : Int) : Int := if 0 ≤ c ∧ c < s.vs.length then lk s.vs c.toNat else 0
theorem peek_any (B p cb : Nat) (lv : Value) (s : BS) (c : Int) (w : World) (h : Bank B w p cb lv s.vs s.lg) :
    Calls Try.prog 62 #[.pointer (some ⟨p, 0, none⟩), .int .i64 c] w fun e w' => e = .returned (.tuple #[.int .u64 (s.pk c), .bool (s.has c)]) ∧ w = w' := by
  by_cases hc : 0 ≤ c ∧ c < s.vs.length
  · simpa [BS.has, BS.pk, hc] using peek_ok B p cb lv s c w h hc.1 hc.2
  · simpa [BS.has, BS.pk, hc] using peek_bad B p cb lv s c w h (by omega)

def NewRBank (B n : Nat) (w : World) (e : Ending) (w' : World) : Prop :=
  ∃ p vb, e = .returned (.tuple #[.pointer (some ⟨p, 0, none⟩), .int .i64 0]) ∧ RBank B w' p vb (.slice none 0 0) (List.replicate n 0) [] ∧ Ch (fun _ => False) w w' ∧ w.heap.size ≤ p ∧ w.heap.size ≤ vb
set_option maxHeartbeats 400000 in
theorem rnew_ok (B n : Nat) (h1 : 1 ≤ n) (h2 : n ≤ 4096) (w : World) (hB : B ≤ w.heap.size) : Calls Try.prog 21 #[.int .i64 n] w (NewRBank B n w) := by
  have hmk := run_make_u64 (P := Try.prog) 30 35 default _ Try.underlying30 Try.infoU64 rfl n (by omega)
  go_enter Try.func21, Try.ntmps21
  go_wp2
  go_ret2
  refine ⟨w.heap.size + 1, w.heap.size, rfl, ⟨?_, ?_, World.ownsRow_nil _ _ _ _, by simpa using h2, by omega, hB⟩, ((Ch.refl _ w).alloc _).alloc _, by omega, Nat.le_refl _⟩
  · rw [List.length_replicate]
    have := Blk.new (w.alloc (.cells (u64s (List.replicate n 0)) 35)) 82 #[.slice (some ⟨w.heap.size, 0, none⟩) n n, .slice none 0 0]
    simpa using this
  · exact (Blk.new w _ _).alloc _
set_option maxHeartbeats 400000 in
theorem rnew_bad (n : Int) (h : n < 1 ∨ 4096 < n) (w : World) : Calls Try.prog 21 #[.int .i64 n] w fun e w' => e = .returned (.tuple #[.pointer none, .int .i64 2]) ∧ w = w' := by
  rcases h with h | h
  · go_enter Try.func21, Try.ntmps21
    go_wp2
    go_ret2
    exact ⟨rfl, rfl⟩
  · have h' : ¬ n < 1 := by omega
    go_enter Try.func21, Try.ntmps21
    go_wp2
    go_ret2
    exact ⟨rfl, rfl⟩

theorem Bank.out {B : Nat} {w : World} {p cb : Nat} {lv : Value} {vs : List Int} {lg : List Acc} (h : Bank B w p cb lv vs lg) {g : Nat} {t : TypeId} {cs : Array Value} (hb : Blk w g t cs) (h1 : t ≠ 88) (h2 : t ≠ 94) (h3 : t ≠ 120) : ¬ FP p cb lv g := by
  rintro (rfl | rfl | hk)
  · exact h1 (hb.inj h.hp).1
  · exact h2 (hb.inj h.hc).1
  · exact hb.own h.hl h3 hk
theorem RBank.out {B : Nat} {w : World} {p vb : Nat} {lv : Value} {vs : List Int} {lg : List Acc} (h : RBank B w p vb lv vs lg) {g : Nat} {t : TypeId} {cs : Array Value} (hb : Blk w g t cs) (h1 : t ≠ 82) (h2 : t ≠ 35) (h3 : t ≠ 120) : ¬ FP p vb lv g := by
  rintro (rfl | rfl | hk)
  · exact h1 (hb.inj h.hp).1
  · exact h2 (hb.inj h.hc).1
  · exact hb.own h.hl h3 hk

/-- Both banks in one memory. -/
structure Two (B : Nat) (w : World) (p cb : Nat) (lv : Value) (s : BS) (q vb : Nat) (mv : Value) (r : BS) : Prop where
  b : Bank B w p cb lv s.vs s.lg
  r : RBank B w q vb mv r.vs r.lg
  sep : ∀ k, lv.ownBlock = some k → mv.ownBlock ≠ some k
theorem Two.ch {B : Nat} {w w' : World} {p cb : Nat} {lv : Value} {s : BS} {q vb : Nat} {mv : Value} {r : BS} (h : Two B w p cb lv s q vb mv r) (c : Ch (fun _ => False) w w') : Two B w' p cb lv s q vb mv r :=
  ⟨h.b.ch c id id (fun _ _ => id), h.r.ch c id id (fun _ _ => id), h.sep⟩
theorem Two.stepB {B : Nat} {w w' : World} {p cb : Nat} {lv : Value} {s s' : BS} {q vb : Nat} {mv : Value} {r : BS} (h : Two B w p cb lv s q vb mv r) (hs : BStep B w w' p cb lv s') : ∃ lv', Two B w' p cb lv' s' q vb mv r ∧ Ch (FP p cb lv) w w' := by
  obtain ⟨lv', hb, hc, hf⟩ := hs
  refine ⟨lv', ⟨hb, h.r.ch hc (h.b.out h.r.hp (by decide) (by decide) (by decide)) (h.b.out h.r.hc (by decide) (by decide) (by decide)) ?_, ?_⟩, hc⟩
  · rintro k hk (rfl | rfl | hl)
    · exact h.b.hp.own h.r.hl (by decide) hk
    · exact h.b.hc.own h.r.hl (by decide) hk
    · exact h.sep k hl hk
  · intro k hk hm
    rcases hf with hf | hf
    · exact h.sep k (hf ▸ hk) hm
    · have := hf k hk
      have := (h.r.hl.lt k hm).2
      omega
theorem Two.stepR {B : Nat} {w w' : World} {p cb : Nat} {lv : Value} {s : BS} {q vb : Nat} {mv : Value} {r r' : BS} (h : Two B w p cb lv s q vb mv r) (hs : RStep B w w' q vb mv r') : ∃ mv', Two B w' p cb lv s q vb mv' r' ∧ Ch (FP q vb mv) w w' := by
  obtain ⟨mv', hb, hc, hf⟩ := hs
  refine ⟨mv', ⟨h.b.ch hc (h.r.out h.b.hp (by decide) (by decide) (by decide)) (h.r.out h.b.hc (by decide) (by decide) (by decide)) ?_, hb, ?_⟩, hc⟩
  · rintro k hk (rfl | rfl | hl)
    · exact h.r.hp.own h.b.hl (by decide) hk
    · exact h.r.hc.own h.b.hl (by decide) hk
    · exact h.sep k hk hl
  · intro k hk hm
    rcases hf with hf | hf
    · exact h.sep k hk (hf ▸ hm)
    · have := hf k hm
      have := (h.b.hl.lt k hk).2
      omega

/-- What both returns, and what it leaves. -/
def BothAns (B : Nat) (w w' : World) (p cb q vb : Nat) (s : BS) (e : Ending) : Prop := e = .returned (.bool true) ∧ (∃ lv mv, Two B w' p cb lv s q vb mv s) ∧ Below B w w'

end Go.Proofs.Ytonjbofdmmnpdaa
