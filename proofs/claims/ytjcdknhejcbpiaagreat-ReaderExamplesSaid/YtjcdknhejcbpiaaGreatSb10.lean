/- Lemmas; no condition. -/
import Derived.Test.YtjcdknhejcbpiaaGreatSb04
import Derived.Test.YtjcdknhejcbpiaaGreatSb05
import Derived.ChangeKeysEq
import Derived.Laws.StructEq
set_option maxRecDepth 100000
set_option maxHeartbeats 2000000
namespace Go.Proofs.YtjcdknhejcbpiaaGreat
open Go.RowKit
set_option linter.unusedVariables false
set_option linter.unusedSimpArgs false
set_option linter.unusedSectionVars false
def begB (b:Int):Bool:=decide (b < 128) || decide (191 < b)
def cntP (p:Int->Bool) (l:List Int):Nat:=(l.filter p).length
theorem cntP_le (p:Int->Bool) (l:List Int):cntP p l<=l.length:=List.length_filter_le _ _
theorem cntP_take (p:Int->Bool) (l:List Int) (k:Nat) (h:k < l.length):cntP p (l.take (k+1))=cntP p (l.take k)+(if p (lk l k) then 1 else 0):=by
 have e:l[k]=lk l k:=by simp [lk,h]
 unfold cntP
 rw [List.take_succ_eq_append_getElem h,List.filter_append,List.length_append,e]
 by_cases hp:p (lk l k)=true
 ·simp [hp]
 ·simp [hp]
structure Ms where
 b:Int
 r:Int
 l:Int
deriving DecidableEq
def Ms.cells (m:Ms):List Value:=[.int .i64 m.b,.int .i64 m.r,.int .i64 m.l]
def Ms.v (m:Ms):Value:=.agg #[.int .i64 m.b,.int .i64 m.r,.int .i64 m.l]
def mOf (s:ByteArray):Ms:=⟨(s.size:Int),(cntP begB (bs s):Int),(cntP (fun b=>b == 10) (bs s):Int)⟩
theorem every_any (b:Int) (w:World):Calls Tryz.prog 174 #[.int .u8 b] w fun e w'=>e=.returned (.bool true)/\w=w':=by
 go_enter Tryz.func174,Tryz.ntmps174
 go_wp2_with fail
 go_ret
 exact ⟨rfl,rfl⟩
theorem begins_any (b:Int) (w:World):Calls Tryz.prog 136 #[.int .u8 b] w fun e w'=>e=.returned (.bool (begB b))/\w=w':=by
 by_cases h1:b < 128
 ·have hv:begB b=true:=by simp [begB,h1]
  rw [hv]
  have d1:decide (b < 128)=true:=decide_eq_true h1
  go_enter Tryz.func136,Tryz.ntmps136
  go_wp2_with fail
  go_ret
  exact ⟨rfl,rfl⟩
 ·have d1:decide (b < 128)=false:=decide_eq_false h1
  have hv:begB b=decide (191 < b):=by simp [begB,h1]
  rw [hv]
  go_enter Tryz.func136,Tryz.ntmps136
  go_wp2_with fail
  go_ret
  exact ⟨rfl,rfl⟩
theorem feeds_any (b:Int) (w:World):Calls Tryz.prog 140 #[.int .u8 b] w fun e w'=>e=.returned (.bool (b == 10))/\w=w':=by
 go_enter Tryz.func140,Tryz.ntmps140
 go_wp2_with fail
 go_ret
 exact ⟨rfl,rfl⟩
theorem count_every (s:ByteArray) (hs:s.size<=1000000) (w:World):Calls Tryz.prog 137 #[.string s,.func (.func 174) #[] #[]] w fun e w'=>e=.returned (.int .i64 (cntP (fun _=>true) (bs s):Nat))/\w=w':=by
 go_enter Tryz.func137,Tryz.ntmps137
 go_wp2_with fail
 go_loopw [5,9] (fun n i W=>∃k:Nat,k<=s.size/\i=.int .i64 (k:Int)/\n=.int .i64 (cntP (fun _=>true) ((bs s).take k):Nat)/\W=w) (fun _ i _=>s.size - (intOf i).toNat)
 case atStart=>exact ⟨0,Nat.zero_le _,rfl,by simp [cntP],rfl⟩
 case round=>
  obtain ⟨k,hk,rfl,rfl,rfl⟩:=hrel
  have hle:=cntP_le (fun _=>true) ((bs s).take k)
  rw [List.length_take,bs_length] at hle
  have HLE:=hid hle
  by_cases hlt:k < s.size
  {
 have hg:=bs_get s k hlt
 have hct:=hid (cntP_take (fun _=>true) (bs s) k (by rw [bs_length];exact hlt))
 obtain ⟨c,hc⟩:∃c,c=cntP (fun _=>true) ((bs s).take k):=⟨_,rfl⟩
 rw [<-hc] at hct hle
 rw [<-hc]
 clear hc
 have hcb:c<=1000000:=by omega
 clear hle HLE
 go_wp2_with fail
 refine (every_any (lk (bs s) k) wr).mono ?_
 rintro e w' ⟨rfl,rfl⟩
 have hct2:=hid (show cntP (fun _=>true) ((bs s).take (k+1))=c+1 from hct.out)
 go_wp2_with fail
 go_roundw
 case rel=>exact ⟨k+1,by omega,by go_num,by rw [hct2.out];go_num,trivial⟩
 case measure=>simp [intOf];omega
 }
  ·obtain rfl:s.size=k:=by omega
   rw [List.take_of_length_le (by rw [bs_length];exact Nat.le_refl _)]
   go_wp2_with fail
   go_ret
   exact ⟨rfl,rfl⟩
theorem count_begins (s:ByteArray) (hs:s.size<=1000000) (w:World):Calls Tryz.prog 137 #[.string s,.func (.func 136) #[] #[]] w fun e w'=>e=.returned (.int .i64 (cntP (begB) (bs s):Nat))/\w=w':=by
 go_enter Tryz.func137,Tryz.ntmps137
 go_wp2_with fail
 go_loopw [5,9] (fun n i W=>∃k:Nat,k<=s.size/\i=.int .i64 (k:Int)/\n=.int .i64 (cntP (begB) ((bs s).take k):Nat)/\W=w) (fun _ i _=>s.size - (intOf i).toNat)
 case atStart=>exact ⟨0,Nat.zero_le _,rfl,by simp [cntP],rfl⟩
 case round=>
  obtain ⟨k,hk,rfl,rfl,rfl⟩:=hrel
  have hle:=cntP_le (begB) ((bs s).take k)
  rw [List.length_take,bs_length] at hle
  have HLE:=hid hle
  by_cases hlt:k < s.size
  {
 have hg:=bs_get s k hlt
 have hct:=hid (cntP_take (begB) (bs s) k (by rw [bs_length];exact hlt))
 obtain ⟨c,hc⟩:∃c,c=cntP (begB) ((bs s).take k):=⟨_,rfl⟩
 rw [<-hc] at hct hle
 rw [<-hc]
 clear hc
 have hcb:c<=1000000:=by omega
 clear hle HLE
 go_wp2_with fail
 refine (begins_any (lk (bs s) k) wr).mono ?_
 rintro e w' ⟨rfl,rfl⟩
 by_cases hp:begB (lk (bs s) k)=true
 ·rw [hp]
  have hct2:=hid (show cntP (begB) ((bs s).take (k+1))=c+1 from by have:=hct.out;rw [if_pos (by simpa using hp)] at this;exact this)
  go_wp2_with fail
  go_roundw
  case rel=>exact ⟨k+1,by omega,by go_num,by rw [hct2.out];go_num,trivial⟩
  case measure=>simp [intOf];omega
 ·have hp':begB (lk (bs s) k)=false:=by simpa using hp
  rw [hp']
  have hct2:=hid (show cntP (begB) ((bs s).take (k+1))=c from by have:=hct.out;rw [if_neg (by simpa using hp)] at this;exact this)
  go_wp2_with fail
  go_roundw
  case rel=>exact ⟨k+1,by omega,by go_num,by rw [hct2.out],trivial⟩
  case measure=>simp [intOf];omega
 }
  ·obtain rfl:s.size=k:=by omega
   rw [List.take_of_length_le (by rw [bs_length];exact Nat.le_refl _)]
   go_wp2_with fail
   go_ret
   exact ⟨rfl,rfl⟩
theorem count_feeds (s:ByteArray) (hs:s.size<=1000000) (w:World):Calls Tryz.prog 137 #[.string s,.func (.func 140) #[] #[]] w fun e w'=>e=.returned (.int .i64 (cntP (fun b=>b == 10) (bs s):Nat))/\w=w':=by
 go_enter Tryz.func137,Tryz.ntmps137
 go_wp2_with fail
 go_loopw [5,9] (fun n i W=>∃k:Nat,k<=s.size/\i=.int .i64 (k:Int)/\n=.int .i64 (cntP (fun b=>b == 10) ((bs s).take k):Nat)/\W=w) (fun _ i _=>s.size - (intOf i).toNat)
 case atStart=>exact ⟨0,Nat.zero_le _,rfl,by simp [cntP],rfl⟩
 case round=>
  obtain ⟨k,hk,rfl,rfl,rfl⟩:=hrel
  have hle:=cntP_le (fun b=>b == 10) ((bs s).take k)
  rw [List.length_take,bs_length] at hle
  have HLE:=hid hle
  by_cases hlt:k < s.size
  {
 have hg:=bs_get s k hlt
 have hct:=hid (cntP_take (fun b=>b == 10) (bs s) k (by rw [bs_length];exact hlt))
 obtain ⟨c,hc⟩:∃c,c=cntP (fun b=>b == 10) ((bs s).take k):=⟨_,rfl⟩
 rw [<-hc] at hct hle
 rw [<-hc]
 clear hc
 have hcb:c<=1000000:=by omega
 clear hle HLE
 go_wp2_with fail
 refine (feeds_any (lk (bs s) k) wr).mono ?_
 rintro e w' ⟨rfl,rfl⟩
 by_cases hp:(lk (bs s) k == 10)=true
 ·rw [hp]
  have hct2:=hid (show cntP (fun b=>b == 10) ((bs s).take (k+1))=c+1 from by have:=hct.out;rw [if_pos (by simpa using hp)] at this;exact this)
  go_wp2_with fail
  go_roundw
  case rel=>exact ⟨k+1,by omega,by go_num,by rw [hct2.out];go_num,trivial⟩
  case measure=>simp [intOf];omega
 ·have hp':(lk (bs s) k == 10)=false:=by simpa using hp
  rw [hp']
  have hct2:=hid (show cntP (fun b=>b == 10) ((bs s).take (k+1))=c from by have:=hct.out;rw [if_neg (by simpa using hp)] at this;exact this)
  go_wp2_with fail
  go_roundw
  case rel=>exact ⟨k+1,by omega,by go_num,by rw [hct2.out],trivial⟩
  case measure=>simp [intOf];omega
 }
  ·obtain rfl:s.size=k:=by omega
   rw [List.take_of_length_le (by rw [bs_length];exact Nat.le_refl _)]
   go_wp2_with fail
   go_ret
   exact ⟨rfl,rfl⟩
theorem arr_eq_run (a b c:Int) (w:World):(binOp .eql 283 (.agg #[.int .i64 a,.int .i64 b,.int .i64 c]) (.agg #[.int .i64 0,.int .i64 0,.int .i64 0])).run Tryz.prog w=.ok (.bool (a == 0 && b == 0 && c == 0)) w:=by
 have hu:Tryz.prog.underlying 283=some (.array 3 3):=by kernel_rfl
 have hc:Tryz.prog.cellsOf 3=1:=by kernel_rfl
 have hp:Tryz.prog.plainKey 3=true:=by kernel_rfl
 obtain ⟨i,hi⟩:∃i,Tryz.prog.info? 3=some i:=by
  cases h:Tryz.prog.info? 3 with
  | none=>
       have:Tryz.prog.info? 3≠none:=by rw [<-Option.isSome_iff_ne_none];kernel_rfl
       exact absurd h this
  | some i=>exact ⟨i,rfl⟩
 have h0:∀(xs:Array Value) (k:Nat) (v:Value),xs[k]?=some v->(part 3 xs k).run Tryz.prog w=.ok v w:=fun xs k v h=>run_part_plain w hp h
 have q:∀d x y,(Op.equalIn (d+1) 3 (.int .i64 x) (.int .i64 y)).run Tryz.prog w=.ok (x == y) w:=fun d x y=>run_equalIn_int w d 3 .i64 .i64 x y Tryz.underlying3
 have e:(Op.equalIn 10000 283 (.agg #[.int .i64 a,.int .i64 b,.int .i64 c]) (.agg #[.int .i64 0,.int .i64 0,.int .i64 0])).run Tryz.prog w=.ok (a == 0 && b == 0 && c == 0) w:=by
  rw [show (10000:Nat)=(9998+1)+1 from rfl,run_equalIn_array w (9998+1) _ _ hu hi,hc,show List.range 3=[0,1,2] from rfl]
  have t0:=h0 #[.int .i64 a,.int .i64 b,.int .i64 c] 0 (.int .i64 a) rfl
  have t1:=h0 #[.int .i64 a,.int .i64 b,.int .i64 c] 1 (.int .i64 b) rfl
  have t2:=h0 #[.int .i64 a,.int .i64 b,.int .i64 c] 2 (.int .i64 c) rfl
  have z0:=h0 #[.int .i64 0,.int .i64 0,.int .i64 0] 0 (.int .i64 0) rfl
  have z1:=h0 #[.int .i64 0,.int .i64 0,.int .i64 0] 1 (.int .i64 0) rfl
  have z2:=h0 #[.int .i64 0,.int .i64 0,.int .i64 0] 2 (.int .i64 0) rfl
  cases ha:(a == 0) <;> cases hb:(b == 0) <;> cases hc':(c == 0) <;> simp [Op.eqItems,Sem.run_bind,t0,t1,t2,z0,z1,z2,q,ha,hb,hc',Sem.run_pure]
 show (do let r <-Op.equal 283 _ _;pure (Value.bool r)).run Tryz.prog w=_
 simp only [Sem.run_bind,Op.equal,Op.maxDepth,e,Result.andThen_ok,Sem.run_pure]
theorem measured_any (a b c:Int) (w:World):Calls Tryz.prog 151 #[.agg #[.int .i64 a,.int .i64 b,.int .i64 c]] w fun e w'=>e=.returned (.agg #[.int .i64 a,.int .i64 b,.int .i64 c])/\Ch (fun _=>False) w w':=by
 by_cases hz:a=0/\b=0/\c=0
 ·obtain ⟨rfl,rfl,rfl⟩:=hz
  have hrun:∀W:World,(binOp .eql 283 (.agg #[.int .i64 0,.int .i64 0,.int .i64 0]) (.agg #[.int .i64 0,.int .i64 0,.int .i64 0])).run Tryz.prog W=.ok (.bool true) W:=fun W=>arr_eq_run 0 0 0 W
  go_enter Tryz.func151,Tryz.ntmps151
  go_wp2_with fail
  refine bodyPost_ret (v:=.agg #[.int .i64 0,.int .i64 0,.int .i64 0]) (by simp [results,Tryz.results151,go_sem]) rfl ⟨rfl,((Ch.refl (fun _=>False) w).alloc _).alloc _⟩
 ·have hq:(a == 0 && b == 0 && c == 0)=false:=by
   cases h:(a == 0 && b == 0 && c == 0) with
   | false=>rfl
   | true=>simp at h;exact absurd ⟨h.1.1,h.1.2,h.2⟩ hz
  have hrun:=fun W=>arr_eq_run a b c W
  rw [hq] at hrun
  go_enter Tryz.func151,Tryz.ntmps151
  go_wp2_with fail
  refine bodyPost_ret (v:=.agg #[.int .i64 a,.int .i64 b,.int .i64 c]) (by simp [results,Tryz.results151,go_sem]) rfl ⟨rfl,((Ch.refl (fun _=>False) w).alloc _).alloc _⟩
theorem of_any (s:ByteArray) (hs:s.size<=1000000) (w:World):Calls Tryz.prog 171 #[.string s] w fun e w'=>e=.returned (mOf s).v/\Ch (fun _=>False) w w':=by
 go_enter Tryz.func171,Tryz.ntmps171
 go_wp2_with fail
 refine at_world fun W0 hW0=>?_
 have C0:=hid (show Ch (fun _=>False) w W0 from by rw [hW0];exact ((Ch.refl (fun _=>False) w).alloc _).alloc _)
 have R0:=hid (show Blk W0 w.heap.size 36 #[.int .i64 0,.int .i64 0,.int .i64 0] from by rw [hW0];exact (Blk.new w _ _).alloc _)
 have K0:=hid (show Blk W0 (w.heap.size+1) 283 #[.int .i64 0,.int .i64 0,.int .i64 0] from by
  rw [hW0]
  have t:=Blk.new (w.alloc (.cells #[.int .i64 0,.int .i64 0,.int .i64 0] 36)) 283 #[.int .i64 0,.int .i64 0,.int .i64 0]
  simpa using t)
 clear hW0
 obtain ⟨A,hA⟩:∃A,A=cntP (fun _=>true) (bs s):=⟨_,rfl⟩
 obtain ⟨B,hB⟩:∃B,B=cntP begB (bs s):=⟨_,rfl⟩
 obtain ⟨C,hC⟩:∃C,C=cntP (fun b=>b == 10) (bs s):=⟨_,rfl⟩
 have hAs:A=s.size:=by rw [hA,cntP,List.filter_eq_self.2 (by simp),bs_length]
 have hm:mOf s=⟨(A:Int),(B:Int),(C:Int)⟩:=by rw [hAs,hB,hC];rfl
 have HA:=hid hA
 have HB:=hid hB
 have HC:=hid hC
 have HM:=hid hm
 clear hA hB hC hm hAs
 go_loopw [7] (fun i W=>∃k:Nat,k<=3/\i=.int .i64 (k:Int)/\Blk W w.heap.size 36 #[.int .i64 0,.int .i64 0,.int .i64 0]/\Blk W (w.heap.size+1) 283 #[.int .i64 (if 0 < k then (A:Int) else 0),.int .i64 (if 1 < k then (B:Int) else 0),.int .i64 (if 2 < k then (C:Int) else 0)]/\Ch (fun _=>False) w W) (fun i _=>3 - (intOf i).toNat)
 case atStart=>exact ⟨0,by decide,rfl,R0.out,K0.out,C0.out⟩
 case round=>
  clear R0 K0 C0
  obtain ⟨k,hk,rfl,hR,hK,hCh⟩:=hrel
  have hcase:k=0\/k=1\/k=2\/k=3:=by omega
  have HR:=hid hR
  have HCH:=hid hCh
  clear hR hCh
  rcases hcase with rfl | rfl | rfl | rfl
  {
 simp only [show ¬(0:Nat) < 0 from by decide,show ¬(1:Nat) < 0 from by decide,show ¬(2:Nat) < 0 from by decide,if_true,if_false] at hK
 rw [show ((0:Nat):Int)=0 from rfl]
 have c0:wr.cell? ⟨w.heap.size+1,0,none⟩=some (.int .i64 0):=hK.cell 0
 have c1:=hK.free 0
 have hix:∀W:World,(Instr.index 304 (.agg #[.func (.func 174) #[] #[],.func (.func 136) #[] #[],.func (.func 140) #[] #[]]) (.int .i64 0)).run Tryz.prog W=.ok (.func (.func 174) #[] #[]) W:=fun W=>by kernel_rfl
 have HK:=hid hK
 clear hK
 go_wp2_with fail
 refine (count_every s hs wr).mono ?_
 rintro e w5 ⟨rfl,rfl⟩
 rw [<-HA.out]
 go_wp2_with fail
 go_roundw
 case rel=>
  refine ⟨1,by decide,by go_num,HR.out.far (by show w.heap.size≠w.heap.size+1;omega) _,?_,HCH.out.set (fun h=>absurd h (by omega)) _⟩
  have t:=HK.out.put 0 (.int .i64 (A:Int))
  simpa using t
 case measure=>simp [intOf]
 }
  {
 simp only [show (0:Nat) < 1 from by decide,show ¬(1:Nat) < 1 from by decide,show ¬(2:Nat) < 1 from by decide,if_true,if_false] at hK
 rw [show ((1:Nat):Int)=1 from rfl]
 have c0:wr.cell? ⟨w.heap.size+1,1,none⟩=some (.int .i64 0):=hK.cell 1
 have c1:=hK.free 1
 have hix:∀W:World,(Instr.index 304 (.agg #[.func (.func 174) #[] #[],.func (.func 136) #[] #[],.func (.func 140) #[] #[]]) (.int .i64 1)).run Tryz.prog W=.ok (.func (.func 136) #[] #[]) W:=fun W=>by kernel_rfl
 have HK:=hid hK
 clear hK
 go_wp2_with fail
 refine (count_begins s hs wr).mono ?_
 rintro e w5 ⟨rfl,rfl⟩
 rw [<-HB.out]
 go_wp2_with fail
 go_roundw
 case rel=>
  refine ⟨2,by decide,by go_num,HR.out.far (by show w.heap.size≠w.heap.size+1;omega) _,?_,HCH.out.set (fun h=>absurd h (by omega)) _⟩
  have t:=HK.out.put 1 (.int .i64 (B:Int))
  simpa using t
 case measure=>simp [intOf]
 }
  {
 simp only [show (0:Nat) < 2 from by decide,show (1:Nat) < 2 from by decide,show ¬(2:Nat) < 2 from by decide,if_true,if_false] at hK
 rw [show ((2:Nat):Int)=2 from rfl]
 have c0:wr.cell? ⟨w.heap.size+1,2,none⟩=some (.int .i64 0):=hK.cell 2
 have c1:=hK.free 2
 have hix:∀W:World,(Instr.index 304 (.agg #[.func (.func 174) #[] #[],.func (.func 136) #[] #[],.func (.func 140) #[] #[]]) (.int .i64 2)).run Tryz.prog W=.ok (.func (.func 140) #[] #[]) W:=fun W=>by kernel_rfl
 have HK:=hid hK
 clear hK
 go_wp2_with fail
 refine (count_feeds s hs wr).mono ?_
 rintro e w5 ⟨rfl,rfl⟩
 rw [<-HC.out]
 go_wp2_with fail
 go_roundw
 case rel=>
  refine ⟨3,by decide,by go_num,HR.out.far (by show w.heap.size≠w.heap.size+1;omega) _,?_,HCH.out.set (fun h=>absurd h (by omega)) _⟩
  have t:=HK.out.put 2 (.int .i64 (C:Int))
  simpa using t
 case measure=>simp [intOf]
 }
  {
 simp only [show (0:Nat) < 3 from by decide,show (1:Nat) < 3 from by decide,show (2:Nat) < 3 from by decide,if_true] at hK
 rw [show ((3:Nat):Int)=3 from rfl]
 obtain ⟨c0,c1,c2⟩:=hK.c3
 go_wp2_with fail
 refine (measured_any A B C wr).mono ?_
 rintro e w5 ⟨rfl,hc5⟩
 have hB5:=hc5.blk HR.out id
 obtain ⟨r0,r1,r2⟩:=hB5.c3
 obtain ⟨s0,s1,s2⟩:=hB5.f3
 have C5:=hid (HCH.out.trans hc5 (fun _ _ h=>h))
 clear hc5 c0 c1 c2
 go_wp2_with fail
 refine at_world fun W6 hW6=>?_
 have B6:=hid (show Blk W6 w.heap.size 36 #[.int .i64 (A:Int),.int .i64 (B:Int),.int .i64 (C:Int)] from by rw [hW6];exact ((hB5.put 0 _).put 1 _).put 2 _)
 have C6:=hid (show Ch (fun _=>False) w W6 from by rw [hW6];exact ((C5.out.set (fun h=>absurd h (by omega)) _).set (fun h=>absurd h (by omega)) _).set (fun h=>absurd h (by omega)) _)
 clear hW6 r0 r1 r2 s0 s1 s2
 obtain ⟨t0,t1,t2⟩:=B6.out.c3
 refine bodyPost_ret (v:=.agg #[.int .i64 (A:Int),.int .i64 (B:Int),.int .i64 (C:Int)]) (by simp [results,Tryz.results171,go_sem,t0,t1,t2]) rfl ⟨by rw [HM.out];rfl,C6.out⟩
 }
def hdl (i:Nat):Int:=65536+(i:Int)
theorem hdl_and (i:Nat) (hi:i < 16384):bits .and .u64 (65536+(i:Int)) 65535=(i:Int):=by
 have t:=bits_mask .u64 32 (by decide) (fun n h0 h1=>by simp [IntKind.wrap,IntKind.bits,IntKind.signed];omega) 16 (by decide) (65536+(i:Int)) (by omega) (by simp;omega)
 have t':bits .and .u64 (65536+(i:Int)) 65535=(65536+(i:Int)) % 65536:=t
 rw [t']
 omega
theorem hdl_or (i:Nat) (hi:i < 16384):bits .or .u64 65536 (i:Int)=65536+(i:Int):=by
 have t:=bits_join .u64 32 (by decide) (fun n h0 h1=>by simp [IntKind.wrap,IntKind.bits,IntKind.signed];omega) 16 65536 (i:Int) (by decide) (by decide) (by decide) (by omega) (by simp;omega) (by simp;omega)
 exact t
theorem hparts_any (i:Nat) (hi:i < 16384) (w:World):Calls Tryz.prog 173 #[.int .u64 (hdl i)] w fun e w'=>e=.returned (.tuple #[.int .i64 (i:Int),.int .u64 1])/\w=w':=by
 unfold hdl
 go_enter Tryz.func173,Tryz.ntmps173
 go_wp2_with fail
 go_ret2
 refine ⟨?_,rfl⟩
 rw [hdl_and i hi]
 have e1:(65536+(i:Int)) / 65536=1:=by omega
 have e2:wrap64 (i:Int)=i:=by unfold wrap64;omega
 simp [e1,e2]
theorem hcheck_any (i:Nat) (hi:i < 16384) (w:World):Calls Tryz.prog 170 #[.int .u64 (hdl i)] w fun e w'=>e=.returned (.int .i64 0)/\w=w':=by
 have a1:decide ((16384:Int)<=(i:Int))=false:=decide_eq_false (by omega)
 have a2:decide (16384<=i)=false:=decide_eq_false (by omega)
 go_enter Tryz.func170,Tryz.ntmps170
 go_wp2_with fail
 refine (hparts_any i hi w).mono ?_
 rintro e w' ⟨rfl,rfl⟩
 go_wp2_with fail
 go_ret
 exact ⟨rfl,rfl⟩
theorem hmake_any (i:Nat) (hi:i < 16384) (w:World):Calls Tryz.prog 175 #[.int .i64 (i:Int),.int .u64 1] w fun e w'=>e=.returned (.tuple #[.int .u64 (hdl i),.int .i64 0])/\w=w':=by
 have a1:decide ((i:Int) < 0)=false:=decide_eq_false (by omega)
 have a2:decide ((16384:Int)<=(i:Int))=false:=decide_eq_false (by omega)
 have a3:decide (16384<=i)=false:=decide_eq_false (by omega)
 go_enter Tryz.func175,Tryz.ntmps175
 go_wp2_with fail
 go_ret2
 refine ⟨?_,rfl⟩
 rw [hdl_or i hi]
 rfl
def InP {α:Type} (cells:α->List Value) (sz:Nat) (w:World) (S:Nat->Prop) (a:Option Addr) (n:Nat) (l:List α):Prop:=
 l.length=n/\(0 < n->∃b off,a=some ⟨b,off,none⟩/\S b/\b < w.heap.size/\∀(i j:Nat) (x:α) (v:Value),l[i]?=some x->(cells x)[j]?=some v->w.cell? ⟨b,off+(i * sz+j),none⟩=some v)
theorem InP.keep {α:Type} {cells:α->List Value} {sz:Nat} {w w':World} {S S' fp:Nat->Prop} {a:Option Addr} {n:Nat} {l:List α} (h:InP cells sz w S a n l) (c:Ch fp w w') (hS:∀k,k < w.heap.size->S k->¬fp k) (hS':∀k,k < w.heap.size->S k->S' k):InP cells sz w' S' a n l:=by
 refine ⟨h.1,fun h0=>?_⟩
 obtain ⟨b,off,rfl,hb,hlt,hc⟩:=h.2 h0
 exact ⟨b,off,rfl,hS' b hlt hb,Nat.lt_of_lt_of_le hlt c.size,fun i j x v hi hj=>(c.cell (p:=⟨b,_,none⟩) hlt (hS b hlt hb)).trans (hc i j x v hi hj)⟩
theorem InP.nil {α:Type} (cells:α->List Value) (sz:Nat) (w:World) (S:Nat->Prop) (a:Option Addr):InP cells sz w S a 0 []:=⟨rfl,fun h=>absurd h (by decide)⟩
theorem InP.some {α:Type} {cells:α->List Value} {sz:Nat} {w:World} {S:Nat->Prop} {a:Option Addr} {n:Nat} {l:List α} (h:InP cells sz w S a n l) (h0:0 < n):∃b off,a=Option.some ⟨b,off,none⟩:=by
 obtain ⟨b,off,hv,_⟩:=h.2 h0
 exact ⟨b,off,hv⟩
theorem InP.at {α:Type} {cells:α->List Value} {sz:Nat} {w:World} {S:Nat->Prop} {b off n:Nat} {l:List α} (h:InP cells sz w S (Option.some ⟨b,off,none⟩) n l) (i:Nat) (x:α) (hi:l[i]?=Option.some x) (j:Nat) (v:Value) (hj:(cells x)[j]?=Option.some v):w.cell? ⟨b,off+(i * sz+j),none⟩=Option.some v:=by
 have hlt:=(List.getElem?_eq_some_iff.1 hi).1
 obtain ⟨b',off',hv,_,_,hc⟩:=h.2 (by have:=h.1;omega)
 injection hv with hv
 injection hv with h1 h2
 subst h1 h2
 exact hc i j x v hi hj
theorem InP.lt {α:Type} {cells:α->List Value} {sz:Nat} {w:World} {S:Nat->Prop} {b off n:Nat} {l:List α} (h:InP cells sz w S (Option.some ⟨b,off,none⟩) n l) (h0:0 < n):b < w.heap.size/\S b:=by
 obtain ⟨b',off',hv,hs,hl,_⟩:=h.2 h0
 injection hv with hv
 injection hv with h1 h2
 subst h1
 exact ⟨hl,hs⟩
theorem flatP {α:Type} {cells:α->List Value} {sz:Nat} (hz:∀x,(cells x).length=sz):∀(l:List α) (i j:Nat) (x:α) (v:Value),l[i]?=some x->(cells x)[j]?=some v->(l.flatMap cells)[i * sz+j]?=some v
 | [],i,j,x,v,h,_=>by simp at h
 | y::l,0,j,x,v,h,hv=>by
  injection h with h
  subst h
  rw [List.flatMap_cons,Nat.zero_mul,Nat.zero_add,List.getElem?_append_left (List.getElem?_eq_some_iff.1 hv).1]
  exact hv
 | y::l,i+1,j,x,v,h,hv=>by
  have t:=flatP hz l i j x v (by simpa using h) hv
  have hy:=hz y
  rw [List.flatMap_cons,Nat.succ_mul,List.getElem?_append_right (by omega),show i * sz+sz+j - (cells y).length=i * sz+j by omega]
  exact t
theorem InP.ofOwn {α:Type} {cells:α->List Value} {sz:Nat} (hz:∀x,(cells x).length=sz) {w:World} {B:Nat} {e:TypeId} {a:Option Addr} {n c:Nat} {l:List α} (hl:l.length=n) (h:w.ownsRow B e sz (.slice a n c) n (l.flatMap cells)) (S:Nat->Prop) (hS:∀k,k < w.heap.size->B<=k->S k):InP cells sz w S a n l:=by
 refine ⟨hl,fun h0=>?_⟩
 obtain ⟨g,cap,hv,_,_,hB,hg⟩:=own_form h h0
 injection hv with h1
 subst h1
 refine ⟨g,0,rfl,hS g hg hB,hg,fun i j x v hi hj=>?_⟩
 have t:=h.cells (g:=g) rfl (i * sz+j) v (flatP hz l i j x v hi hj)
 rw [addr_add0] at t
 rw [Nat.zero_add]
 exact t
def Ms.add (a b:Ms):Ms:=⟨a.b+b.b,a.r+b.r,a.l+b.l⟩
def msum (l:List Ms):Ms:=l.foldl Ms.add ⟨0,0,0⟩
def Ms.ok (m:Ms):Prop:=0<=m.l/\m.l<=m.r/\m.r<=m.b/\m.b<=1000000
theorem msum_snoc (l:List Ms) (m:Ms):msum (l++[m])=(msum l).add m:=by simp [msum]
theorem fold_ok:∀(l:List Ms) (m0:Ms),(∀m ∈ l,m.ok)->0<=m0.l->m0.l<=m0.r->m0.r<=m0.b->0<=(l.foldl Ms.add m0).l/\(l.foldl Ms.add m0).l<=(l.foldl Ms.add m0).r/\(l.foldl Ms.add m0).r<=(l.foldl Ms.add m0).b/\(l.foldl Ms.add m0).b<=m0.b+1000000 * (l.length:Int)
 | [],m0,_,a,b,c=>⟨a,b,c,by simp⟩
 | m::l,m0,h,a,b,c=>by
  obtain ⟨x,y,z,u⟩:=h m (by simp)
  obtain ⟨p,q,r,s⟩:=fold_ok l (m0.add m) (fun k hk=>h k (by simp [hk])) (by simp only [Ms.add];omega) (by simp only [Ms.add];omega) (by simp only [Ms.add];omega)
  refine ⟨p,q,r,?_⟩
  simp only [Ms.add] at s
  simp only [List.foldl_cons,List.length_cons]
  push_cast
  simp only [Ms.add] at *
  omega
theorem msum_ok (l:List Ms) (h:∀m ∈ l,m.ok):0<=(msum l).l/\(msum l).l<=(msum l).r/\(msum l).r<=(msum l).b/\(msum l).b<=1000000 * (l.length:Int):=by
 have t:=fold_ok l ⟨0,0,0⟩ h (by decide) (by decide) (by decide)
 simp only [Int.zero_add] at t
 exact t
theorem madd_any (S:Nat->Prop) (a:Option Addr) (n c:Nat) (l:List Ms) (w:World) (h:InP Ms.cells 3 w S a n l) (hok:∀m ∈ l,m.ok) (hn:n<=1000) :
  Calls Tryz.prog 134 #[.slice a n c] w fun e w'=>e=.returned (msum l).v/\Ch (fun _=>False) w w':=by
 go_enter Tryz.func134,Tryz.ntmps134
 go_wp2_with fail
 refine at_world fun W0 hW0=>?_
 have C0:=hid (show Ch (fun _=>False) w W0 from by rw [hW0];exact ((Ch.refl (fun _=>False) w).alloc _).alloc _)
 have R0:=hid (show Blk W0 w.heap.size 36 #[.int .i64 0,.int .i64 0,.int .i64 0] from by rw [hW0];exact (Blk.new w _ _).alloc _)
 have K0:=hid (show Blk W0 (w.heap.size+1) 283 #[.int .i64 0,.int .i64 0,.int .i64 0] from by
  rw [hW0]
  have t:=Blk.new (w.alloc (.cells #[.int .i64 0,.int .i64 0,.int .i64 0] 36)) 283 #[.int .i64 0,.int .i64 0,.int .i64 0]
  simpa using t)
 clear hW0
 have HH:=hid h
 have HOK:=hid hok
 clear h hok
 go_loopw [10] (fun i W=>∃k:Nat,k<=n/\i=.int .i64 (k:Int)/\Blk W w.heap.size 36 #[.int .i64 0,.int .i64 0,.int .i64 0]/\Blk W (w.heap.size+1) 283 #[.int .i64 (msum (l.take k)).b,.int .i64 (msum (l.take k)).r,.int .i64 (msum (l.take k)).l]/\Ch (fun _=>False) w W) (fun i _=>n - (intOf i).toNat)
 case atStart=>exact ⟨0,Nat.zero_le _,rfl,R0.out,K0.out,C0.out⟩
 case round=>
  clear R0 K0 C0
  obtain ⟨k,hk,rfl,hR,hK,hCh⟩:=hrel
  have HR:=hid hR
  have HCH:=hid hCh
  have HK:=hid hK
  clear hR hCh hK
  have hln:=HH.out.1
  by_cases hlt:k < n
  {
 obtain ⟨b,off,rfl⟩:=HH.out.some (by omega)
 obtain ⟨x,hx⟩:∃x,l[k]?=some x:=⟨_,List.getElem?_eq_getElem (by omega)⟩
 have hI:=HH.out.keep HCH.out (fun _ _ _=>id) (fun _ _ h=>h)
 have c0:wr.cell? ⟨b,off+k * 3,none⟩=some (.int .i64 x.b):=hI.at k x hx 0 _ rfl
 have c1:wr.cell? ⟨b,off+k * 3+1,none⟩=some (.int .i64 x.r):=hI.at k x hx 1 _ rfl
 have c2:wr.cell? ⟨b,off+k * 3+2,none⟩=some (.int .i64 x.l):=hI.at k x hx 2 _ rfl
 have htk:l.take (k+1)=l.take k++[x]:=by
  have hkl:=List.getElem?_eq_some_iff.1 hx
  rw [List.take_succ_eq_append_getElem hkl.1,hkl.2]
 have hms:msum (l.take (k+1))=(msum (l.take k)).add x:=by rw [htk,msum_snoc]
 have hmo:=msum_ok (l.take k) (fun m hm=>HOK.out m (List.mem_of_mem_take hm))
 have hxo:=HOK.out x (List.mem_of_getElem? hx)
 obtain ⟨q,hq⟩:∃q,q=msum (l.take k):=⟨_,rfl⟩
 rw [<-hq] at hms hmo HK
 rw [List.length_take] at hmo
 have HMS:=hid hms
 obtain ⟨xo1,xo2,xo3,xo4⟩:=hxo
 obtain ⟨mo1,mo2,mo3,mo4⟩:=hmo
 have mo4':q.b<=1000000000:=by omega
 clear hI hx htk hms hq mo4
 obtain ⟨y1,y2⟩:=dc_ltT (a:=k) (b:=n) (by omega)
 go_wp2_with fail
 refine at_world fun W2 hW2=>?_
 have C2:=hid (show Ch (fun _=>False) w W2 from by rw [hW2];exact HCH.out.alloc _)
 have R2:=hid (show Blk W2 w.heap.size 36 #[.int .i64 0,.int .i64 0,.int .i64 0] from by rw [hW2];exact HR.out.alloc _)
 have K2:=hid (show Blk W2 (w.heap.size+1) 283 #[.int .i64 q.b,.int .i64 q.r,.int .i64 q.l] from by rw [hW2];exact HK.out.alloc _)
 clear hW2 HR HK HCH c0 c1 c2
 have hz2:=R2.out.lt
 go_loopw [21] (fun i W=>∃j:Nat,j<=3/\i=.int .i64 (j:Int)/\Blk W w.heap.size 36 #[.int .i64 0,.int .i64 0,.int .i64 0]/\Blk W (w.heap.size+1) 283 #[.int .i64 (if 0 < j then q.b+x.b else q.b),.int .i64 (if 1 < j then q.r+x.r else q.r),.int .i64 (if 2 < j then q.l+x.l else q.l)]/\Ch (fun _=>False) w W) (fun i _=>3 - (intOf i).toNat)
 case atStart=>exact ⟨0,by decide,rfl,R2.out,K2.out,C2.out⟩
 case round=>
  clear R2 K2 C2
  obtain ⟨j,hj,rfl,hR,hK,hCh⟩:=hrel
  have hcase:j=0\/j=1\/j=2\/j=3:=by omega
  have HR:=hid hR
  have HCH:=hid hCh
  clear hR hCh
  rcases hcase with rfl | rfl | rfl | rfl
  ·simp only [show ¬(0:Nat) < 0 from by decide,show ¬(1:Nat) < 0 from by decide,show ¬(2:Nat) < 0 from by decide,if_true,if_false] at hK
   rw [show ((0:Nat):Int)=0 from rfl]
   have c0:wr.cell? ⟨w.heap.size+1,0,none⟩=some (.int .i64 q.b):=hK.cell 0
   have c1:=hK.free 0
   have HK:=hid hK
   clear hK
   have hix:∀W:World,(Instr.index 282 (.agg #[.int .i64 x.b,.int .i64 x.r,.int .i64 x.l]) (.int .i64 0)).run Tryz.prog W=.ok (.int .i64 x.b) W:=fun W=>by kernel_rfl
   go_wp2_with fail
   go_roundw
   case rel=>
    refine ⟨1,by decide,by go_num,HR.out.far (by show w.heap.size≠w.heap.size+1;omega) _,?_,HCH.out.set (fun h=>absurd h (by omega)) _⟩
    have t:=HK.out.put 0 (.int .i64 (q.b+x.b))
    simpa using t
   case measure=>simp [intOf]
  ·simp only [show (0:Nat) < 1 from by decide,show ¬(1:Nat) < 1 from by decide,show ¬(2:Nat) < 1 from by decide,if_true,if_false] at hK
   rw [show ((1:Nat):Int)=1 from rfl]
   have c0:wr.cell? ⟨w.heap.size+1,1,none⟩=some (.int .i64 q.r):=hK.cell 1
   have c1:=hK.free 1
   have HK:=hid hK
   clear hK
   have hix:∀W:World,(Instr.index 282 (.agg #[.int .i64 x.b,.int .i64 x.r,.int .i64 x.l]) (.int .i64 1)).run Tryz.prog W=.ok (.int .i64 x.r) W:=fun W=>by kernel_rfl
   go_wp2_with fail
   go_roundw
   case rel=>
    refine ⟨2,by decide,by go_num,HR.out.far (by show w.heap.size≠w.heap.size+1;omega) _,?_,HCH.out.set (fun h=>absurd h (by omega)) _⟩
    have t:=HK.out.put 1 (.int .i64 (q.r+x.r))
    simpa using t
   case measure=>simp [intOf]
  ·simp only [show (0:Nat) < 2 from by decide,show (1:Nat) < 2 from by decide,show ¬(2:Nat) < 2 from by decide,if_true,if_false] at hK
   rw [show ((2:Nat):Int)=2 from rfl]
   have c0:wr.cell? ⟨w.heap.size+1,2,none⟩=some (.int .i64 q.l):=hK.cell 2
   have c1:=hK.free 2
   have HK:=hid hK
   clear hK
   have hix:∀W:World,(Instr.index 282 (.agg #[.int .i64 x.b,.int .i64 x.r,.int .i64 x.l]) (.int .i64 2)).run Tryz.prog W=.ok (.int .i64 x.l) W:=fun W=>by kernel_rfl
   go_wp2_with fail
   go_roundw
   case rel=>
    refine ⟨3,by decide,by go_num,HR.out.far (by show w.heap.size≠w.heap.size+1;omega) _,?_,HCH.out.set (fun h=>absurd h (by omega)) _⟩
    have t:=HK.out.put 2 (.int .i64 (q.l+x.l))
    simpa using t
   case measure=>simp [intOf]
  ·simp only [show (0:Nat) < 3 from by decide,show (1:Nat) < 3 from by decide,show (2:Nat) < 3 from by decide,if_true] at hK
   rw [show ((3:Nat):Int)=3 from rfl]
   go_wp2_with fail
   refine ⟨⟨k+1,by omega,by push_cast;rfl,HR.out,by rw [HMS.out];exact hK,HCH.out⟩,by simp only [intOf];omega⟩
 }
  {
 obtain rfl:n=k:=by omega
 rw [List.take_of_length_le (by omega)] at HK
 obtain ⟨c0,c1,c2⟩:=HK.out.c3
 have y1:decide (n < n)=false:=decide_eq_false (by omega)
 go_wp2_with fail
 refine (measured_any (msum l).b (msum l).r (msum l).l wr).mono ?_
 rintro e w5 ⟨rfl,hc5⟩
 have hB5:=hc5.blk HR.out id
 obtain ⟨r0,r1,r2⟩:=hB5.c3
 obtain ⟨s0,s1,s2⟩:=hB5.f3
 have C5:=hid (HCH.out.trans hc5 (fun _ _ h=>h))
 clear hc5 c0 c1 c2
 go_wp2_with fail
 refine at_world fun W6 hW6=>?_
 have B6:=hid (show Blk W6 w.heap.size 36 #[.int .i64 (msum l).b,.int .i64 (msum l).r,.int .i64 (msum l).l] from by rw [hW6];exact ((hB5.put 0 _).put 1 _).put 2 _)
 have C6:=hid (show Ch (fun _=>False) w W6 from by rw [hW6];exact ((C5.out.set (fun h=>absurd h (by omega)) _).set (fun h=>absurd h (by omega)) _).set (fun h=>absurd h (by omega)) _)
 clear hW6 r0 r1 r2 s0 s1 s2
 obtain ⟨t0,t1,t2⟩:=B6.out.c3
 refine bodyPost_ret (v:=.agg #[.int .i64 (msum l).b,.int .i64 (msum l).r,.int .i64 (msum l).l]) (by simp [results,Tryz.results134,go_sem,t0,t1,t2]) rfl ⟨rfl,C6.out⟩
 }
end Go.Proofs.YtjcdknhejcbpiaaGreat
