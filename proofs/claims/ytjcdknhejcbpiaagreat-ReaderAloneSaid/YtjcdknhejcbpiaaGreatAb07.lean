/- Lemmas that the proof of the last text leans on; no condition. -/
import Derived.Test.YtjcdknhejcbpiaaGreatRows
import Derived.Test.YtjcdknhejcbpiaaGreatAb02
import Derived.Test.YtjcdknhejcbpiaaGreatAb01
import Derived.BigGuardPart
import Derived.ProofKit
import Derived.OpenShut
import Derived.ShutString
import Derived.ChangeOld
import Derived.Below
import Derived.Deep.Slices
import Derived.Deep.Fields
import Derived.ChangeSame
import Derived.Laws.CopyOwn
set_option maxHeartbeats 400000
namespace Go.Proofs.YtjcdknhejcbpiaaGreat
open Go.RowKit
set_option linter.unusedSimpArgs false
structure Acc where
 t:Int
 c:Int
 k:Int
 o:Int
 n:Int
 s:Bool
def Acc.cells (x:Acc):List Value:=[.int .i64 x.t,.int .i64 x.c,.int .u8 x.k,.int .u64 x.o,.int .u64 x.n,.bool x.s]
def logCells (l:List Acc):List Value:=l.flatMap Acc.cells
def u64s (l:List Int):Array Value:=(l.map (Value.int .u64)).toArray
theorem u64s_getD (l:List Int) (i:Nat) (h:i < l.length):(u64s l)[i]?=some (.int .u64 (lk l i)):=by simp [u64s,lk,h]
theorem u64s_set (l:List Int) (i:Nat) (v:Int):(u64s l).setIfInBounds i (.int .u64 v)=u64s (l.set i v):=by
 simp [u64s,List.map_set]
theorem logCells_snoc (l:List Acc) (x:Acc):logCells (l++[x])=logCells l++x.cells:=by simp [logCells]
structure Bank (B:Nat) (w:World) (p cb:Nat) (lv:Value) (vs:List Int) (lg:List Acc):Prop where
 hp:Blk w p 147 #[.slice (some ⟨cb,0,none⟩) vs.length vs.length,lv]
 hc:Blk w cb 152 (u64s vs)
 hl:w.ownsRow B 89 6 lv lg.length (logCells lg)
 hv:∀x ∈ vs,0≤x∧x < 18446744073709551616
 hn:vs.length≤4096
 bp:B≤p
 bc:B≤cb
theorem Tryz.cells_cell:Tryz.prog.cellsOf 152=1:=by kernel_rfl
theorem Tryz.infoAcc:(Tryz.prog.info? 89).map (fun i=>(i.zero,i.size,i.bytes))=some (some (.agg #[.int .i64 0,.int .i64 0,.int .u8 0,.int .u64 0,.int .u64 0,.bool false]),6,48):=by kernel_rfl
theorem Bank.ch {B:Nat} {w w':World} {p cb:Nat} {lv:Value} {vs:List Int} {lg:List Acc} {fp:Nat→Prop} (h:Bank B w p cb lv vs lg) (c:Ch fp w w')
  (h1:¬fp p) (h2:¬fp cb) (h3:∀k,lv.ownBlock=some k→¬fp k):Bank B w' p cb lv vs lg:=
 ⟨c.blk h.hp h1,c.blk h.hc h2,c.own h.hl h3,h.hv,h.hn,h.bp,h.bc⟩
def chk (n:Nat) (t c:Int):Int:=if t < 0∨16≤t then 2 else if c < 0∨(n:Int)≤c then 3 else 0
set_option linter.unusedVariables false
theorem check_any (p:Nat) (t c:Int) (n cp:Nat) (a:Option Addr) (w:World) (h0:w.cell? ⟨p,0,none⟩=some (.slice a n cp)) :
  Calls Tryz.prog 74 #[.pointer (some ⟨p,0,none⟩),.int .i64 t,.int .i64 c] w fun e w'=>e=.returned (.int .i64 (chk n t c))∧w=w':=by
 unfold chk
 by_cases h1:t < 0
 ·go_enter Tryz.func74,Tryz.ntmps74
  go_wp2
  go_ret
  exact ⟨by simp,rfl⟩
 ·have h1':0≤t:=by omega
  by_cases h2:t < 16
  ·have h2':¬16≤t:=by omega
   by_cases h3:c < 0
   ·go_enter Tryz.func74,Tryz.ntmps74
    go_wp2
    go_ret
    exact ⟨by simp,rfl⟩
   ·have h3':0≤c:=by omega
    by_cases h4:c < n
    ·have h4':¬(n:Int)≤c:=by omega
     go_enter Tryz.func74,Tryz.ntmps74
     go_wp2
     go_ret
     exact ⟨by simp,rfl⟩
    ·have h4':(n:Int)≤c:=by omega
     go_enter Tryz.func74,Tryz.ntmps74
     go_wp2
     go_ret
     exact ⟨by simp,rfl⟩
  ·have h2':16≤t:=by omega
   go_enter Tryz.func74,Tryz.ntmps74
   go_wp2
   go_ret
   exact ⟨by simp,rfl⟩
theorem aload_run (w:World) (a:Addr) (x:Int) (h:w.cell? a=some (.int .u64 x)):Sem.run Tryz.prog (callFunc 87 #[.pointer (some a)]) w=.ok (.value (.int .u64 x)) w:=
 run_call_load Tryz.func87 (by kernel_rfl) (by kernel_rfl) (by kernel_rfl) .u64 (by kernel_rfl) h
theorem aload (w:World) (b o:Nat) (x:Int) (h:w.cell? ⟨b,o,none⟩=some (.int .u64 x)) :
  Calls Tryz.prog 53 #[.pointer (some ⟨b,o,none⟩)] w fun e w'=>e=.returned (.int .u64 x)∧w=w':=by
 have hr:=aload_run w ⟨b,o,none⟩ x h
 go_enter Tryz.func53,Tryz.ntmps53
 go_wp2
 go_ret
 exact ⟨rfl,rfl⟩
theorem note_any (B p cb:Nat) (lv:Value) (vs:List Int) (lg:List Acc) (t:Int) (c:Nat) (k o:Int) (s:Bool) (w:World) (h:Bank B w p cb lv vs lg) (hc:c < vs.length) (hlen:lg.length < 1000000) (hB:B≤w.heap.size) :
  Calls Tryz.prog 76 #[.pointer (some ⟨p,0,none⟩),.int .i64 t,.int .i64 c,.int .u8 k,.int .u64 o,.bool s] w fun e w'=>e=.returned (.tuple #[])∧
   ∃lv',Bank B w' p cb lv' vs (lg++[⟨t,c,k,o,lk vs c,s⟩])∧Ch (fun b=>b=p∨lv.ownBlock=some b) w w'∧(lv'.ownBlock=lv.ownBlock∨∀b,lv'.ownBlock=some b→w.heap.size≤b):=by
 obtain ⟨i0,hi,hz0,hz1,hz2⟩:=info_parts Tryz.infoAcc
 obtain ⟨A,cap,rfl,_⟩:=own_slice h.hl
 have hplt:=h.hp.lt
 have h0:=h.hp.cell 0
 have h1:=h.hp.cell 1
 have hcell:=(h.hc.cell c).trans (u64s_getD vs c hc)
 simp only [List.getElem?_toArray,List.getElem?_cons_zero,List.getElem?_cons_succ] at h0 h1
 go_enter Tryz.func76,Tryz.ntmps76
 obtain ⟨S,hS⟩:∃S:Nat→Prop,∀k,S k↔k < w.heap.size:=⟨_,fun _=>Iff.rfl⟩
 have hSp:Mix.Has S p:=(hS p).2 h.hp.lt
 have HS:=hid hS
 clear hS
 refine Mix.wp_region_mix S (fun i=>([1,1,1,1,4,0,0,0,0,0,0,0,0,0,0,0,0,0,3,2,0,0,2]:List Nat).getD i 0) [0,1,2,3,4,5,6,7,8,9,10,11,12,13,14,15,16,17,18,19,20,21,22] (by kernel_rfl) (by kernel_rfl) ?_
 repeat (first | (refine Mix.q1 rfl ?_;go_big_quiet_step ((go_at_call 53;refine Calls.mono (aload _ _ _ _ (by assumption)) ?_;rintro e w' ⟨rfl,rfl⟩;exact ⟨rfl,_,rfl⟩));refine wpQuiet_nil ?_) | (refine Mix.p1 rfl rfl ?_;go_big_quiet_step (fail);refine wpQuiet_nil ?_) | (refine Mix.s1 rfl rfl ?_;go_big_quiet_step (fail);refine wpQuiet_nil ?_))
 refine Mix.a1 rfl fun W0 hW0=>?_
 obtain ⟨n1,rfl⟩:=hW0
 go_wp2_with fail
 refine ⟨fun k hk=>Below.heap_alloc _ _ k ((HS.out k).1 hk),Mix.mix_world fun W1 hW1=>?_⟩
 have cW:Ch (fun _=>False) w W1:=by rw [hW1];exact Ch.push rfl rfl rfl rfl
 have nW:Blk W1 w.heap.size 89 #[.int .i64 t,.int .i64 c,.int .u8 k,.int .u64 o,.int .u64 (lk vs c),.bool s]:=by rw [hW1];exact Blk.push rfl
 clear hW1
 refine Mix.e1 rfl fun W2 hW2=>?_
 obtain ⟨n2,rfl⟩:=hW2
 refine wpList_app _ rfl _ _ 86 rfl B 89 i0 _ 6 48 Tryz.underlying86 hi hz0 hz1 hz2 rfl (by decide) _ _ _ rfl ((cW.drewN n2).own h.hl (fun _ _=>id)) ⟨w.heap.size,0,none⟩ 1 1 (Acc.cells ⟨t,c,k,o,lk vs c,s⟩) rfl rfl ?c1 ?c2 (by decide) ?c3 ?c4 ?c5 ?_
 case c1=>
  intro j u hu
  rw [addr_add0,(nW.drewN n2).cell j]
  simpa [Acc.cells] using hu
 case c2=>intro u hu;simp [Acc.cells] at hu;rcases hu with rfl | rfl | rfl | rfl | rfl | rfl <;> rfl
 case c3=>unfold maxLen;omega
 case c4=>omega
 case c5=>have:=cW.size;exact Nat.le_trans hB this
 intro v' w' hown hgrow hfresh
 have c1:Ch (fun b=>(Value.slice A lg.length cap).ownBlock=some b) w w':=((cW.drewN n2).mono (fun _ _ h=>h.elim)).grown hgrow (fun k hk _=>hk)
 have hp':Blk w' p 147 #[.slice (some ⟨cb,0,none⟩) vs.length vs.length,.slice A lg.length cap]:=c1.blk h.hp (h.hp.own h.hl (by decide))
 have hc':Blk w' cb 152 (u64s vs):=c1.blk h.hc (h.hc.own h.hl (by decide))
 obtain ⟨g,cap',rfl,_,_,hg1,hg2⟩:=own_form hown (by omega)
 have hrow:(Value.slice (some ⟨g,0,none⟩) (lg.length+1) cap').ownBlock=(Value.slice A lg.length cap).ownBlock∨w.heap.size≤g:=by
  rcases hfresh with h | h
  ·exact .inl h
  ·exact .inr (Nat.le_trans cW.size (h g rfl))
 clear cW nW hgrow
 go_wp2_with fail
 have h1':=hp'.cell 1
 have f1':=hp'.free 1
 simp only [List.getElem?_toArray,List.getElem?_cons_zero,List.getElem?_cons_succ] at h1'
 repeat (refine Mix.q1 rfl ?_;go_big_quiet_step (fail);refine wpQuiet_nil ?_)
 refine Mix.e1 rfl fun W4 hW4=>?_
 obtain ⟨n4,rfl⟩:=hW4
 go_wp2_with fail
 intro n5
 go_end0
 refine ⟨rfl,.slice (some ⟨g,0,none⟩) (lg.length+1) cap',⟨(hp'.drewN n4).put 1 _,((hc'.drewN n4).far (hc'.ne hp' (by decide)) _),?_,h.hv,h.hn,h.bp,h.bc⟩,?_,?_⟩
 ·rw [logCells_snoc,List.length_append]
  exact (Ch.refl (fun b=>b=p) _).setCell (fun _=>rfl) _ |>.own hown (fun k hk e=>hp'.own hown (by decide) (by rw [hk,e]))
 ·have c2:Ch (fun b=>b=p∨(Value.slice A lg.length cap).ownBlock=some b) w w':=c1.mono (fun _ _ h=>Or.inr h)
  exact ((c2.drewN n4).set (fun _=>.inl rfl) _).drewN n5
 ·rcases hrow with h | h
  ·exact .inl h
  ·refine .inr fun b hb=>?_
   simp [Value.ownBlock] at hb
   omega
structure BS where
 vs:List Int
 lg:List Acc
def w64 (x:Int):Int:=x % 18446744073709551616
theorem w64_wrap (x:Int):IntKind.u64.wrap x=w64 x:=by simp [IntKind.wrap,w64,IntKind.signed,IntKind.bits]
theorem w64_bd (x:Int):0≤w64 x∧w64 x < 18446744073709551616:=by unfold w64;omega
def BS.log (s:BS) (x:Acc):BS:=⟨s.vs,s.lg++[x]⟩
def BS.setlog (s:BS) (c:Nat) (v:Int) (x:Acc):BS:=⟨s.vs.set c v,s.lg++[x]⟩
def BS.fine (s:BS) (t c:Int):Prop:=0≤t∧t < 16∧0≤c∧c < s.vs.length
theorem chk_fine {s:BS} {t c:Int} (h:s.fine t c):chk s.vs.length t c=0:=by
 obtain ⟨h1,h2,h3,h4⟩:=h
 unfold chk
 rw [if_neg (by omega),if_neg (by omega)]
def FP (p cb:Nat) (lv:Value):Nat→Prop:=fun b=>b=p∨b=cb∨lv.ownBlock=some b
def BStep (B:Nat) (w w':World) (p cb:Nat) (lv:Value) (s:BS):Prop:=∃lv',Bank B w' p cb lv' s.vs s.lg∧Ch (FP p cb lv) w w'∧Fresh w lv lv'
theorem lk_set {vs:List Int} {c:Nat} (v:Int) (h:c < vs.length):lk (vs.set c v) c=v:=by simp [lk,h]
theorem set_bd {vs:List Int} (h:∀x ∈ vs,0≤x∧x < 18446744073709551616) (c:Nat) {v:Int} (hv:0≤v∧v < 18446744073709551616):∀x ∈ vs.set c v,0≤x∧x < 18446744073709551616:=by
 intro x hx
 rcases List.mem_or_eq_of_mem_set hx with h1 | h1
 ·exact h x h1
 ·rw [h1];exact hv
theorem Bank.set {B:Nat} {w:World} {p cb:Nat} {lv:Value} {vs:List Int} {lg:List Acc} (h:Bank B w p cb lv vs lg) (c:Nat) {v:Int} (hv:0≤v∧v < 18446744073709551616) :
  Bank B (w.setCell ⟨cb,c,none⟩ (.int .u64 v)) p cb lv (vs.set c v) lg:=by
 refine ⟨?_,?_,?_,set_bd h.hv c hv,by rw [List.length_set];exact h.hn,h.bp,h.bc⟩
 ·rw [List.length_set];exact h.hp.far (h.hp.ne h.hc (by decide)) _
 ·rw [←u64s_set];exact h.hc.put c _
 ·exact ((Ch.refl (fun b=>b=cb) _).set (fun _=>rfl) _).own h.hl (fun k hk e=>h.hc.own h.hl (by decide) (by rw [hk,e]))
theorem astore_run (w:World) (a:Addr) (x y:Int) (h:w.cell? a=some (.int .u64 x)) (hf:w.frozen? a=false):Sem.run Tryz.prog (callFunc 113 #[.pointer (some a),.int .u64 y]) w=.ok (.value (.tuple #[])) (w.setCell a (.int .u64 y)):=
 run_call_store Tryz.func113 (by kernel_rfl) (by kernel_rfl) (by kernel_rfl) (by kernel_rfl) h hf
theorem astore (w:World) (b o:Nat) (x y:Int) (h:w.cell? ⟨b,o,none⟩=some (.int .u64 x)) (hf:w.frozen? ⟨b,o,none⟩=false) :
  Calls Tryz.prog 75 #[.pointer (some ⟨b,o,none⟩),.int .u64 y] w fun e w'=>e=.returned (.tuple #[])∧w.setCell ⟨b,o,none⟩ (.int .u64 y)=w':=by
 have hr:=astore_run w ⟨b,o,none⟩ x y h hf
 go_enter Tryz.func75,Tryz.ntmps75
 go_wp2
 go_end0
 exact ⟨rfl,rfl⟩
theorem fresh_set {w:World} {p:Addr} {u v v':Value} (h:Fresh (w.setCell p u) v v'):Fresh w v v':=h.imp id (fun h b hb=>by have:=h b hb;simpa [World.setCell] using this)
def BS.load (s:BS) (t c:Int):BS:=s.log ⟨t,c,1,lk s.vs c.toNat,lk s.vs c.toNat,false⟩
theorem load_ok (B p cb:Nat) (lv:Value) (s:BS) (t c:Int) (w:World) (h:Bank B w p cb lv s.vs s.lg) (hk:s.fine t c) (hlen:s.lg.length < 1000000) (hB:B≤w.heap.size) :
  Calls Tryz.prog 95 #[.pointer (some ⟨p,0,none⟩),.int .i64 t,.int .i64 c] w fun e w'=>e=.returned (.tuple #[.int .u64 (lk s.vs c.toNat),.int .i64 0])∧BStep B w w' p cb lv (s.load t c):=by
 have h0:=h.hp.cell 0
 simp only [List.getElem?_toArray,List.getElem?_cons_zero] at h0
 have hb:(chk s.vs.length t c != 0)=false:=by rw [chk_fine hk];rfl
 have hbb:chk s.vs.length t c=0:=chk_fine hk
 obtain ⟨_,_,hc0,hc1⟩:=hk
 obtain ⟨c,rfl⟩:=Int.eq_ofNat_of_zero_le hc0
 try simp only [Int.toNat_natCast]
 have hcl:c < s.vs.length:=by omega
 have hcell:=(h.hc.cell c).trans (u64s_getD s.vs c hcl)
 have Hbb:=hid hbb
 clear hbb
 go_enter Tryz.func95,Tryz.ntmps95
 go_wp2_with (first | (go_at_call 74;refine (check_any _ _ _ _ _ _ _ h0).mono ?_;rintro e w' ⟨rfl,rfl⟩) | (go_at_call 53;refine (aload _ _ _ _ hcell).mono ?_;rintro e w' ⟨rfl,rfl⟩))
 go_at_call 76
 refine (note_any B p cb lv s.vs s.lg t c 1 _ false _ h hcl hlen hB).mono ?_
 rintro e w' ⟨rfl,lv',hb',hc',hf'⟩
 go_wp2_with fail
 go_ret2
 exact ⟨rfl,lv',hb',hc'.mono (fun _ _ h=>h.elim .inl (fun h=>.inr (.inr h))),hf'⟩
def BS.store (s:BS) (t c v:Int):BS:=s.setlog c.toNat v ⟨t,c,2,lk s.vs c.toNat,v,false⟩
theorem store_ok (B p cb:Nat) (lv:Value) (s:BS) (t c:Int) (v:Int) (w:World) (h:Bank B w p cb lv s.vs s.lg) (hk:s.fine t c) (hlen:s.lg.length < 1000000) (hB:B≤w.heap.size) (hv:0≤v∧v < 18446744073709551616) :
  Calls Tryz.prog 42 #[.pointer (some ⟨p,0,none⟩),.int .i64 t,.int .i64 c,.int .u64 v] w fun e w'=>e=.returned (.int .i64 0)∧BStep B w w' p cb lv (s.store t c v):=by
 have h0:=h.hp.cell 0
 simp only [List.getElem?_toArray,List.getElem?_cons_zero] at h0
 have hb:(chk s.vs.length t c != 0)=false:=by rw [chk_fine hk];rfl
 obtain ⟨_,_,hc0,hc1⟩:=hk
 obtain ⟨c,rfl⟩:=Int.eq_ofNat_of_zero_le hc0
 try simp only [Int.toNat_natCast]
 have hcl:c < s.vs.length:=by omega
 have hcell:=(h.hc.cell c).trans (u64s_getD s.vs c hcl)
 have hfree:=h.hc.free c
 go_enter Tryz.func42,Tryz.ntmps42
 go_wp2_with (first | (go_at_call 74;refine (check_any _ _ _ _ _ _ _ h0).mono ?_;rintro e w' ⟨rfl,rfl⟩) | (go_at_call 53;refine (aload _ _ _ _ hcell).mono ?_;rintro e w' ⟨rfl,rfl⟩))
 go_at_call 75
 refine (astore _ _ _ _ v hcell hfree).mono ?_
 rintro e w' ⟨rfl,rfl⟩
 go_wp2_with fail
 go_at_call 76
 refine (note_any B p cb lv (s.vs.set c v) s.lg t c 2 _ false _ (h.set c hv) (by rw [List.length_set];exact hcl) hlen (by simpa [World.setCell] using hB)).mono ?_
 rintro e w' ⟨rfl,lv',hb',hc',hf'⟩
 go_wp2_with fail
 go_ret
 refine ⟨rfl,lv',?_,?_,fresh_set hf'⟩
 ·simpa only [BS.setlog,lk_set _ hcl,List.length_set,BS.store,Int.toNat_natCast] using hb'
 ·exact ((Ch.refl (FP p cb lv) w).set (fun _=>.inr (.inl rfl)) _).trans hc' (fun _ _ h=>h.elim .inl (fun h=>.inr (.inr h)))
theorem made_u64 (n:Nat):madeCells #[.int .u64 0] n=u64s (List.replicate n 0):=by
 unfold madeCells u64s
 apply Array.ext
 ·simp
 ·intro i h1 h2
  simp only [Array.getElem_map,List.map_replicate,List.getElem_toArray,List.getElem_replicate]
  rw [getElem!_pos #[Value.int .u64 0] _ (by simp [Nat.mod_one])]
  simp [Nat.mod_one]
theorem run_make_u64 {P:Program} (t e:TypeId) (i:TypeInfo) (z:Value) (ht:P.underlying t=some (.slice e)) (hi:(P.info? e).map (fun i=>(i.zero,i.size,i.bytes))=some (some z,1,8)) (hz:z.cells=#[.int .u64 0])
  (n:Nat) (hn:n≤1000000) (w:World):(Instr.makeSlice t (.int .i64 (n:Int)) (.int .i64 (n:Int))).run P w=.ok (.slice (some ⟨w.heap.size,0,none⟩) n n) (w.alloc (.cells (u64s (List.replicate n 0)) e)):=by
 obtain ⟨i,hi,hz0,hz1,hz2⟩:=info_parts hi
 have hr:=run_make (P:=P) w t e i z ht hi hz0 .i64 .i64 n n (by omega) (Int.le_refl _) (by rw [hz2];omega) (by omega)
 simp only [Int.toNat_natCast] at hr
 rw [hr,hz1,Nat.mul_one,hz,made_u64]
theorem Tryz.infoCell:(Tryz.prog.info? 152).map (fun i=>(i.zero,i.size,i.bytes))=some (some (.agg #[.int .u64 0]),1,8):=by kernel_rfl
theorem Tryz.infoU64:(Tryz.prog.info? 54).map (fun i=>(i.zero,i.size,i.bytes))=some (some (.int .u64 0),1,8):=by kernel_rfl
def NewBank (B n:Nat) (w:World) (e:Ending) (w':World):Prop:=
 ∃p cb,e=.returned (.tuple #[.pointer (some ⟨p,0,none⟩),.int .i64 0])∧Bank B w' p cb (.slice none 0 0) (List.replicate n 0) []∧Ch (fun _=>False) w w'∧w.heap.size≤p∧w.heap.size≤cb
theorem new_ok (B n:Nat) (h1:1≤n) (h2:n≤4096) (w:World) (hB:B≤w.heap.size):Calls Tryz.prog 45 #[.int .i64 n] w (NewBank B n w):=by
 have hmk:=run_make_u64 (P:=Tryz.prog) 145 152 default _ Tryz.underlying145 Tryz.infoCell rfl n (by omega)
 go_enter Tryz.func45,Tryz.ntmps45
 go_wp2
 go_ret2
 refine ⟨w.heap.size+1,w.heap.size,rfl,⟨?_,?_,World.ownsRow_nil _ _ _ _,?_,by simpa using h2,by omega,hB⟩,((Ch.refl _ w).alloc _).alloc _,by omega,Nat.le_refl _⟩
 ·rw [List.length_replicate]
  have:=Blk.new (w.alloc (.cells (u64s (List.replicate n 0)) 152)) 147 #[.slice (some ⟨w.heap.size,0,none⟩) n n,.slice none 0 0]
  simpa using this
 ·exact (Blk.new w _ _).alloc _
 ·intro x hx
  rw [List.eq_of_mem_replicate hx]
  decide
theorem len_any (B p cb:Nat) (lv:Value) (s:BS) (w:World) (h:Bank B w p cb lv s.vs s.lg) :
  Calls Tryz.prog 28 #[.pointer (some ⟨p,0,none⟩)] w fun e w'=>e=.returned (.int .i64 s.lg.length)∧w=w':=by
 obtain ⟨A,cap,rfl,_⟩:=own_slice h.hl
 have h1:=h.hp.cell 1
 simp only [List.getElem?_toArray,List.getElem?_cons_zero,List.getElem?_cons_succ] at h1
 go_enter Tryz.func28,Tryz.ntmps28
 go_wp2
 go_ret
 exact ⟨rfl,rfl⟩
def Words (B:Nat) (w w':World) (vs:List Int) (e:Ending):Prop:=∃b,e=.returned (.slice (some ⟨b,0,none⟩) vs.length vs.length)∧Blk w' b 54 (u64s vs)∧Ch (fun _=>False) w w'∧w.heap.size≤b
theorem values_fill (vs:List Int) (k:Nat) (h:k < vs.length):(u64s (vs.take k++List.replicate (vs.length - k) 0)).setIfInBounds k (.int .u64 (lk vs k))=u64s (vs.take (k+1)++List.replicate (vs.length - (k+1)) 0):=by
 rw [u64s_set]
 congr 1
 apply List.ext_getElem?
 intro i
 rw [List.getElem?_set]
 simp only [List.length_append,List.length_take,List.length_replicate]
 by_cases hi:k=i
 ·subst hi
  rw [if_pos rfl,if_pos (by omega),List.getElem?_append_left (by simp;omega),List.getElem?_take,if_pos (by omega),List.getElem?_eq_getElem h]
  simp [lk,h]
 ·rw [if_neg hi]
  rcases Nat.lt_or_ge i k with h1 | h1
  ·rw [List.getElem?_append_left (by simp;omega),List.getElem?_append_left (by simp;omega),List.getElem?_take,List.getElem?_take,if_pos h1,if_pos (by omega)]
  ·rw [List.getElem?_append_right (by simp;omega),List.getElem?_append_right (by simp;omega)]
   simp only [List.length_take,List.getElem?_replicate]
   congr 1
   simp only [eq_iff_iff]
   omega
theorem values_any (B p cb:Nat) (lv:Value) (s:BS) (w:World) (h:Bank B w p cb lv s.vs s.lg) :
  Calls Tryz.prog 82 #[.pointer (some ⟨p,0,none⟩)] w fun e w'=>Words B w w' s.vs e:=by
 have h0:=h.hp.cell 0
 have hplt:=h.hp.lt
 simp only [List.getElem?_toArray,List.getElem?_cons_zero] at h0
 have hn:=h.hn
 have hmk:=run_make_u64 (P:=Tryz.prog) 189 54 default _ Tryz.underlying189 Tryz.infoU64 rfl s.vs.length (by omega)
 go_enter Tryz.func82,Tryz.ntmps82
 go_wp2
 go_loopw [15] (fun i wr=>∃k:Nat,k≤s.vs.length∧i=.int .i64 k∧Blk wr w.heap.size 54 (u64s (s.vs.take k++List.replicate (s.vs.length - k) 0))∧Ch (fun _=>False) w wr) (fun i _=>s.vs.length - (intOf i).toNat)
 case atStart=>exact ⟨0,Nat.zero_le _,rfl,by simpa using Blk.new w _ _,(Ch.refl _ w).alloc _⟩
 case round=>
  obtain ⟨k,hk,rfl,hb,hch⟩:=hrel
  have h0':=(hch.cell (p:=⟨p,0,none⟩) hplt id).trans h0
  by_cases hlt:k < s.vs.length
  ·have hcell:=((hch.blk h.hc id).cell k).trans (u64s_getD s.vs k hlt)
   have hold:∃u,wr.cell? ⟨w.heap.size,k,none⟩=some u:=by
    rw [hb.cell k]
    refine ⟨_,Array.getElem?_eq_getElem ?_⟩
    simp [u64s];omega
   obtain ⟨u,hu⟩:=hold
   have hfr:=hb.free k
   have Hb:=hid hb
   clear hb
   go_wp2_with (go_at_call 53;refine (aload _ _ _ _ hcell).mono ?_;rintro e w' ⟨rfl,rfl⟩)
   go_roundw
   case rel=>exact ⟨k+1,by omega,by go_num,by have:=Hb.out.put k (.int .u64 (lk s.vs k));rw [values_fill _ _ hlt] at this;exact this,hch.set (fun h=>absurd h (Nat.lt_irrefl _)) _⟩
   case measure=>simp [intOf];omega
  ·have:k=s.vs.length:=by omega
   subst this
   go_wp2
   go_ret
   refine ⟨w.heap.size,rfl,by simpa using hb,hch,Nat.le_refl _⟩
open Go.RowKit Go.ChangeShapes Go.WideShapes Go.Deep
section
variable {H:Type} {enc:TypeId × Value→H} {P:Program} {w:World} {base:Nat} {spare:Nat→Bool} {held:Bool}
theorem exists_list {α:Type} {R:Nat→α→Prop}:∀n,(∀i,i < n→∃x,R i x)→∃l:List α,l.length=n∧∀i x,l[i]?=some x→R i x
 | 0,_=>⟨[],rfl,by simp⟩
 | n+1,h=>by
  obtain ⟨l,hl,hr⟩:=exists_list n (fun i hi=>h i (by omega))
  obtain ⟨x,hx⟩:=h n (by omega)
  refine ⟨l++[x],by simp [hl],fun i y hy=>?_⟩
  by_cases hi:i < n
  ·rw [List.getElem?_append_left (by omega)] at hy;exact hr i y hy
  ·have:i=n:=by
    have:=(List.getElem?_eq_some_iff.1 hy).1
    simp [hl] at this;omega
   subst this
   rw [List.getElem?_append_right (by omega),hl] at hy
   simp at hy
   subst hy
   exact hx
end
theorem wf_u8 {n:Int} (h:(Lit.int .u8 n).wf=true):0≤n∧n < 256:=by
 simp [Lit.wf,IntKind.min,IntKind.max,IntKind.signed,IntKind.bits] at h;omega
theorem wf_i64 {n:Int} (h:(Lit.int .i64 n).wf=true):-9223372036854775808≤n∧n < 9223372036854775808:=by
 simp [Lit.wf,IntKind.min,IntKind.max,IntKind.signed,IntKind.bits] at h;omega
instance (s:BS) (t c:Int):Decidable (s.fine t c):=by unfold BS.fine;infer_instance
section
variable (B p cb:Nat) (lv:Value) (s:BS) (t c:Int) (w:World) (h:Bank B w p cb lv s.vs s.lg) (hlen:s.lg.length < 1000000) (hB:B≤w.heap.size)
include h hlen hB
end
theorem run_min {P:Program} (tys:Array TypeId) (t:TypeId) (m n:Nat) (w:World):(Builtin.min_ tys t #[.int .i64 (m:Int),.int .i64 (n:Int)]).run P w=.ok (.int .i64 ((min m n:Nat):Int)) w:=by
 simp only [Builtin.min_,List.foldlM_cons,List.foldlM_nil,Builtin.min2]
 simp
 split <;> omega
theorem run_slice_low {P:Program} (t e:TypeId) (size:Nat) (ht:P.underlying t=some (.slice e)) (hz:(P.info? e).map (·.size)=some size) (A:Option Addr) (n cap i:Nat) (hi:i≤n) (hc:n≤cap) (w:World) :
  (Instr.sliceAt t (.slice A n cap) (some (.int .i64 (i:Int))) none none).run P w=.ok (.slice (if cap=i then A else A.map (·.add (i * size))) (n - i) (cap - i)) w:=by
 cases hq:P.info? e with
 | none=>simp [hq] at hz
 | some inf=>
  have hsz:inf.size=size:=by simpa [hq] using hz
  have h1:(0:Int)≤(i:Int)∧(i:Int)≤(n:Int):=by omega
  simp only [Instr.sliceAt,Sem.run_bind,run_underlying ht,Result.andThen_ok,Instr.slice,Instr.sliceBounds,Instr.sliceBound,asIntOf,Sem.run_pure,h1,and_self,if_true,Int.toNat_natCast,sizeOf,typeInfo,hq]
  simp [program,Sem.run,hq,hsz]
def fitsS:Option (Option IntKind)→Value→Prop
 | none,v=>∃s:ByteArray,v=.string s∧s.size≤maxLen
 | some none,v=>∃b,v=.bool b
 | some (some k),v=>∃n,v=.int k n∧(Lit.int k n).wf=true
def FitsS (ks:List (Option (Option IntKind))) (vs:List Value):Prop:=vs.length=ks.length∧∀(j:Nat) (k:Option (Option IntKind)),ks[j]?=some k→∃v,vs[j]?=some v∧fitsS k v
def InRowsS (ks:List (Option (Option IntKind))) (w:World) (a:Option Addr) (len:Nat) (ls:List (List Value)):Prop:=
 ls.length=len∧(∀vs ∈ ls,FitsS ks vs)∧(0 < len→∃b off,a=some ⟨b,off,none⟩∧b < w.heap.size∧∀i j vs v,ls[i]?=some vs→vs[j]?=some v→w.cell? ⟨b,off+(i * ks.length+j),none⟩=some v)
def fieldsSB (P:Program) (fs:Array Field) (ks:List (Option (Option IntKind))):Bool:=
 fs.size == ks.length && (List.range ks.length).all fun j=>match fs[j]?,ks[j]? with
  | some f,some k=>f.offset == j && P.cellsOf f.type == 1 && (match P.underlying f.type,k with | some (.int k'),some (some k)=>k' == k | some .bool,some none=>true | some .string,none=>true | _,_=>false)
  | _,_=>false
section
variable {H:Type} {enc:TypeId × Value→H} {P:Program} {w:World} {base:Nat} {spare:Nat→Bool} {held:Bool}
theorem fitsS_of_trod {e:TypeId} {fs:Array Field} {ks:List (Option (Option IntKind))} {n:Nat} {cs:List Value} {x:DataW H × List MemPlace} (he:P.underlying e=some (.struct fs)) (hB:fieldsSB P fs ks=true)
  (hC:P.cellsOf e=ks.length) (h:DataW.trod enc P w base spare held n e cs=some x):FitsS ks cs:=by
 obtain ⟨xs,m,_,_,hcl,hxl,hf⟩:=DataW.trod_struct he h
 simp only [fieldsSB,Bool.and_eq_true,beq_iff_eq,List.all_eq_true,List.mem_range] at hB
 obtain ⟨hsz,hB⟩:=hB
 refine ⟨by rw [hcl,hC],fun j k hk=>?_⟩
 have hj:j < ks.length:=(List.getElem?_eq_some_iff.1 hk).1
 have hB':=hB j hj
 obtain ⟨f,hfj⟩:∃f,fs[j]?=some f:=⟨_,Array.getElem?_eq_getElem (by omega)⟩
 rw [hfj,hk] at hB'
 simp only [Bool.and_eq_true,beq_iff_eq] at hB'
 obtain ⟨⟨ho,hc1⟩,hk'⟩:=hB'
 have h1:=hf j f hfj
 have hjc:j < cs.length:=by rw [hcl,hC];exact hj
 rw [ho,hc1,List.drop_eq_getElem_cons hjc] at h1
 simp only [List.take_succ_cons,List.take_zero] at h1
 have hxj:xs[j]?=some (xs[j]'(by omega)):=List.getElem?_eq_getElem (by omega)
 rw [hxj] at h1
 refine ⟨cs[j],List.getElem?_eq_getElem hjc,?_⟩
 cases hu:P.underlying f.type with
 | none=>rw [hu] at hk';simp at hk'
 | some td=>
  rw [hu] at hk'
  match k,td,hk' with
  | some (some k),.int k',hk'=>
   simp at hk'
   subst hk'
   obtain ⟨n,hn,_,hw⟩:=DataW.trod_int hu h1
   simp at hn
   exact ⟨n,hn,hw⟩
  | some none,.bool,_=>
   obtain ⟨b,hb,_⟩:=DataW.trod_bool hu h1
   simp at hb
   exact ⟨b,hb⟩
  | none,.string,_=>
   obtain ⟨s,hs,_,hl⟩:=DataW.trod_string hu h1
   simp at hs
   exact ⟨s,hs,hl⟩
theorem in_structS {r:Reach} {b0:Nat} {t:TypeId} {fs:Array Field} {ks:List (Option (Option IntKind))} {v:Value} {d:DataW H} {p:List MemPlace} (ht:P.underlying t=some (.struct fs)) (hB:fieldsSB P fs ks=true) (hC:P.cellsOf t=ks.length)
  (hv:Value.okWide P w r b0 t v) (h:DataW.Trod enc P w base spare held t v d p):∃vs,v=.agg vs.toArray∧FitsS ks vs:=by
 obtain ⟨cs,rfl,_⟩:=okWide_struct ht hv
 obtain ⟨fuel,hf⟩:=h
 have hf':DataW.trod enc P w base spare held fuel t cs.toList=some (d,p):=by simpa [Value.cells] using hf
 exact ⟨cs.toList,by simp,fitsS_of_trod ht hB hC hf'⟩
end
abbrev K0:=Option (Option IntKind)
abbrev K1:=K0 ⊕ List K0
def fitsN (w:World):K1→Value→Prop
 | .inl k,v=>fitsS k v
 | .inr ks,v=>∃a n c ls,v=.slice a n c∧n≤c∧c≤maxLen∧(a=none→c=0)∧InRowsS ks w a n ls
def FitsN (w:World) (ks:List K1) (vs:List Value):Prop:=vs.length=ks.length∧∀(j:Nat) (k:K1),ks[j]?=some k→∃v,vs[j]?=some v∧fitsN w k v
def InRowsN (ks:List K1) (w:World) (a:Option Addr) (len:Nat) (ls:List (List Value)):Prop:=
 ls.length=len∧(∀vs ∈ ls,FitsN w ks vs)∧(0 < len→∃b off,a=some ⟨b,off,none⟩∧b < w.heap.size∧∀i j vs v,ls[i]?=some vs→vs[j]?=some v→w.cell? ⟨b,off+(i * ks.length+j),none⟩=some v)
def flatOk (P:Program):Nat→TypeId→List K1→Bool
 | 0,_,_=>false
 | n+1,t,ks=>match P.underlying t with
  | some (.int k)=>match ks with
   | [.inl (some (some k'))]=>k' == k
   | _=>false
  | some .bool=>match ks with
   | [.inl (some none)]=>true
   | _=>false
  | some .string=>match ks with
   | [.inl none]=>true
   | _=>false
  | some (.slice e)=>match ks with
   | [.inr ks']=>0 < ks'.length && P.cellsOf e == ks'.length && flatOk P n e (ks'.map Sum.inl)
   | _=>false
  | some (.struct fs)=>P.cellsOf t == ks.length && ((List.range fs.size).all fun j=>match fs[j]? with
    | some f=>decide (f.offset+P.cellsOf f.type≤ks.length) && flatOk P n f.type ((ks.drop f.offset).take (P.cellsOf f.type))
    | none=>false) && ((List.range ks.length).all fun i=>(List.range fs.size).any fun j=>match fs[j]? with
    | some f=>decide (f.offset≤i∧i < f.offset+P.cellsOf f.type)
    | none=>false)
  | _=>false
theorem fitsS_of_N {w:World} {ks:List K0} {vs:List Value} (h:FitsN w (ks.map Sum.inl) vs):FitsS ks vs:=by
 obtain ⟨hl,hf⟩:=h
 refine ⟨by simpa using hl,fun j k hk=>?_⟩
 exact hf j (.inl k) (by simp [hk])
section
variable {H:Type} {enc:TypeId × Value→H} {P:Program} {w:World} {base:Nat} {spare:Nat→Bool} {held:Bool}
theorem fits_one {k:K1} {v:Value} (h:fitsN w k v):FitsN w [k] [v]:=
 ⟨rfl,fun j k' hk=>by
  match j,hk with
  | 0,hk=>injection hk with hk;subst hk;exact ⟨v,rfl,h⟩
  | j+1,hk=>simp at hk⟩
theorem rows_of_slice {n:Nat} (ih:∀(t:TypeId) (ks:List K1) (m:Nat) (cs:List Value) (x:DataW H × List MemPlace),flatOk P n t ks=true→DataW.trod enc P w base spare held m t cs=some x→FitsN w ks cs)
  {t e:TypeId} {ks:List K1} {m:Nat} {cs:List Value} {x:DataW H × List MemPlace} (ht:P.underlying t=some (.slice e)) (hB:flatOk P n e ks=true) (hC:P.cellsOf e=ks.length) (hpos:0 < ks.length)
  (hf:DataW.trod enc P w base spare held m t cs=some x):∃a len cap ls,cs=[.slice a len cap]∧len≤cap∧cap≤maxLen∧(a=none→cap=0)∧InRowsN ks w a len ls:=by
 rcases open_slice ht hf with ⟨hcs,_⟩ | ⟨x,len,c,m,n,D,Pl,hcs,_,hl,hm,hmm,_,hi⟩
 ·exact ⟨none,0,0,[],hcs,Nat.le_refl _,Nat.zero_le _,fun _=>rfl,rfl,by simp,fun h=>absurd h (by omega)⟩
 ·have hlm:len≤m:=by rw [hmm];split <;> omega
  have hall:∀i,i < len→∃vs:List Value,FitsN w ks vs∧∀j v,vs[j]?=some v→w.cell? (x.add (i * ks.length+j))=some v:=by
   intro i hil
   obtain ⟨cs',hc,htr⟩:=hi i (by omega)
   have hfit:=ih _ _ _ _ _ hB htr
   rw [hC] at hc
   obtain ⟨_,hcl,hat⟩:=World.cells?_some hc
   refine ⟨cs',hfit,fun j v hv=>?_⟩
   have hj:j < ks.length:=by have:=(List.getElem?_eq_some_iff.1 hv).1;have:=hfit.1;omega
   have:=hat j hj
   rw [←Go.Deep.add_add,this,hv]
  obtain ⟨ls,hls,hr⟩:=exists_list (R:=fun i vs=>FitsN w ks vs∧∀j v,vs[j]?=some v→w.cell? (x.add (i * ks.length+j))=some v) len hall
  refine ⟨some x,len,c,ls,hcs,hl,hm,(fun h=>by cases h),hls,fun vs hvs=>?_,fun h0=>?_⟩
  ·obtain ⟨i,hi'⟩:=List.getElem?_of_mem hvs
   exact (hr i vs hi').1
  ·have h1:ls[0]?=some (ls[0]'(by omega)):=List.getElem?_eq_getElem (by omega)
   have hf0:=(hr 0 _ h1).1
   have hv0:(ls[0]'(by omega))[0]?=some ((ls[0]'(by omega))[0]'(by rw [hf0.1];exact hpos)):=List.getElem?_eq_getElem _
   have hc0:=(hr 0 _ h1).2 0 _ hv0
   have hs:=World.cell?_spot hc0
   obtain ⟨b,off,spot⟩:=x
   have hs':spot=none:=by simpa [Addr.add] using hs
   subst hs'
   refine ⟨b,off,rfl,?_,fun i j vs v hvs hv=>?_⟩
   ·have:=World.block_lt_of_cell? w _ hc0
    simpa [Addr.add] using this
   ·have:=(hr i vs hvs).2 j v hv
    rwa [addr_add] at this
theorem fitsN_of_trod:∀(n:Nat) (t:TypeId) (ks:List K1) (m:Nat) (cs:List Value) (x:DataW H × List MemPlace),flatOk P n t ks=true→DataW.trod enc P w base spare held m t cs=some x→FitsN w ks cs
 | 0,t,ks,m,cs,x,hB,_=>by simp [flatOk] at hB
 | n+1,t,ks,m,cs,x,hB,h=>by
  have ih:=fitsN_of_trod n
  unfold flatOk at hB
  split at hB
  ·rename_i k hu
   split at hB
   ·simp only [beq_iff_eq] at hB
    subst hB
    obtain ⟨i,hi,_,hw⟩:=DataW.trod_int hu h
    rw [hi]
    exact fits_one ⟨i,rfl,hw⟩
   ·cases hB
  ·rename_i hu
   split at hB
   ·obtain ⟨b,hb,_⟩:=DataW.trod_bool hu h
    rw [hb]
    exact fits_one ⟨b,rfl⟩
   ·cases hB
  ·rename_i hu
   split at hB
   ·obtain ⟨s,hs,_,hl⟩:=DataW.trod_string hu h
    rw [hs]
    exact fits_one ⟨s,rfl,hl⟩
   ·cases hB
  ·rename_i e hu
   split at hB
   ·rename_i ks'
    simp only [Bool.and_eq_true,decide_eq_true_eq,beq_iff_eq] at hB
    obtain ⟨⟨hp,hc⟩,hB⟩:=hB
    obtain ⟨a,len,cap,ls,rfl,h1,h2,h3,hls,hall,hcell⟩:=rows_of_slice ih hu hB (by rw [hc,List.length_map]) (by rw [List.length_map];exact hp) h
    refine fits_one ⟨a,len,cap,ls,rfl,h1,h2,h3,hls,fun vs hvs=>fitsS_of_N (hall vs hvs),?_⟩
    rw [List.length_map] at hcell
    exact hcell
   ·cases hB
  ·rename_i fs hu
   simp only [Bool.and_eq_true,beq_iff_eq,List.all_eq_true,List.mem_range] at hB
   obtain ⟨⟨hC,hB1⟩,hB2⟩:=hB
   obtain ⟨xs,m',_,_,hcl,hxl,hf⟩:=DataW.trod_struct hu h
   refine ⟨by rw [hcl,hC],fun j k hk=>?_⟩
   have hj:j < ks.length:=(List.getElem?_eq_some_iff.1 hk).1
   have hc:=hB2 j hj
   rw [List.any_eq_true] at hc
   obtain ⟨i,hi,hfi⟩:=hc
   rw [List.mem_range] at hi
   have hb1:=hB1 i hi
   obtain ⟨f,hfj⟩:∃f,fs[i]?=some f:=⟨_,Array.getElem?_eq_getElem hi⟩
   rw [hfj] at hfi hb1
   simp only [decide_eq_true_eq,Bool.and_eq_true] at hfi hb1
   have h1:=hf i f hfj
   rw [show xs[i]?=some (xs[i]'(by omega)) from List.getElem?_eq_getElem (by omega)] at h1
   obtain ⟨_,hfit⟩:=ih _ _ _ _ _ hb1.2 h1
   have hk':((ks.drop f.offset).take (P.cellsOf f.type))[j - f.offset]?=some k:=by
    rw [List.getElem?_take,if_pos (by omega),List.getElem?_drop,show f.offset+(j - f.offset)=j by omega]
    exact hk
   obtain ⟨v,hv,hfv⟩:=hfit _ _ hk'
   refine ⟨v,?_,hfv⟩
   rw [List.getElem?_take,if_pos (by omega),List.getElem?_drop,show f.offset+(j - f.offset)=j by omega] at hv
   exact hv
  ·cases hB
theorem in_rowsN {t e:TypeId} {ks:List K1} {a:Option Addr} {len cap:Nat} {d:DataW H} {p:List MemPlace} (ht:P.underlying t=some (.slice e))
  (hB:flatOk P 6 e ks=true) (hC:P.cellsOf e=ks.length) (hpos:0 < ks.length) (h:DataW.Trod enc P w base spare held t (.slice a len cap) d p):∃ls,InRowsN ks w a len ls:=by
 obtain ⟨fuel,hf⟩:=h
 have hf':DataW.trod enc P w base spare held fuel t [.slice a len cap]=some (d,p):=by simpa [Value.cells] using hf
 obtain ⟨a',len',cap',ls,hcs,_,_,_,hr⟩:=rows_of_slice (fun t ks m cs x=>fitsN_of_trod 6 t ks m cs x) ht hB hC hpos hf'
 simp at hcs
 obtain ⟨rfl,rfl,rfl⟩:=hcs
 exact ⟨ls,hr⟩
end
end Go.Proofs.YtjcdknhejcbpiaaGreat
