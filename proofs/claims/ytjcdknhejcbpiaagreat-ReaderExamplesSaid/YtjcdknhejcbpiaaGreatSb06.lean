/- Lemmas; no condition. -/
import Derived.Test.YtjcdknhejcbpiaaGreatSb04
import Derived.Test.YtjcdknhejcbpiaaGreatSb05
set_option maxRecDepth 100000
set_option maxHeartbeats 1000000
namespace Go.Proofs.YtjcdknhejcbpiaaGreat
open Go.RowKit
set_option linter.unusedVariables false
set_option linter.unusedSimpArgs false
set_option linter.unusedSectionVars false
theorem exec_len {P:Program} {o:Oper} {a:Act} {x:Operand} {tys:Array TypeId} (ho:o.op=.call { callee:=.builtin .len,args:=#[x],argTypes:=tys }) {u v:Value} {W:World} (hx:a.eval x=u) (hr:(Builtin.len_ tys o.type #[u]).run P W=.ok v W):(execOp a.eval o).run P W=.ok (.value v) W:=by
 simp [execOp,ho,resolve,invoke,builtin,hx,hr,Result.andThen]
def i64s (l:List Int):Array Value:=(l.map (Value.int .i64)).toArray
theorem i64s_get (l:List Int) (i:Nat) (h:i < l.length):(i64s l)[i]?=some (.int .i64 (lk l i)):=by simp [i64s,lk,h]
theorem i64s_set (l:List Int) (i:Nat) (v:Int):(i64s l).setIfInBounds i (.int .i64 v)=i64s (l.set i v):=by simp [i64s,List.map_set]
theorem fill_i64s (f:Nat->Int) (n:Nat):fillA (fun i=>.int .i64 (f i)) (.int .i64 0) n n=i64s ((List.range n).map f):=by
 apply Array.ext
 ·simp [fillA_size,i64s]
 ·intro i h1 h2
  rw [fillA_size] at h1
  simp [fillA,i64s,h1]
theorem free_len (n:Nat) (lb g0:Nat) (xs:List Int) (hn:n<=16384) (hx:xs.length=n) (w:World) (hlb:lb < w.heap.size) (h0:w.cell? ⟨lb,0,none⟩=some (.slice (some ⟨g0,0,none⟩) n n)) (hb:Blk w g0 3 (i64s xs)) :
  Calls Tryz.prog 58 #[.pointer (some ⟨lb,0,none⟩)] w fun e w'=>∃A,e=.returned (.slice A n n)/\Ch (fun _=>False) w w':=by
 have hmk:=fun W:World=>run_make_x (P:=Tryz.prog) 77 3 (.int .i64 0) 1 8 Tryz.underlying77 (by kernel_rfl) (by decide) n (by omega) W
 have hsz1:(Tryz.prog.info? 3).map (·.size)=some 1:=by kernel_rfl
 have HB:=hid hb
 have Hx:=hid hx
 clear hb hx
 go_enter Tryz.func58,Tryz.ntmps58
 go_wp2_with (refine wpList_copy_full rfl (.tmp 14) (.tmp 18) 77 77 rfl 3 Tryz.underlying77 1 hsz1 w.heap.size n n (some ⟨g0,0,none⟩) n rfl rfl (madeX #[.int .i64 0] n) 3 ?k1 ?k2 (xs.map (Value.int .i64)) ?k3 ?k4 ?k5 ?k6)
 case k1=>exact Blk.push rfl
 case k2=>rw [madeX_size];omega
 case k3=>rw [List.length_map,Hx.out];omega
 case k4=>
  intro _
  refine ⟨_,rfl,fun j v hj=>?_⟩
  rw [addr_add0]
  refine (World.cell?_alloc_lt w _ _ HB.out.lt).trans ((HB.out.cell j).trans ?_)
  simpa [i64s] using hj
 case k5=>
  intro v hv
  obtain ⟨x,_,rfl⟩:=List.mem_map.1 hv
  rfl
 case k6=>
  intro w1 hb hc
  have HC:=hid (((Ch.refl (fun _=>False) w).alloc _).trans hc (fun i hi h=>absurd hi (by omega)))
  have HG:=hid (show Blk w1 w.heap.size 3 (i64s xs) from hb)
  clear hb hc h0 hlb hmk
  go_wp2_with fail
  go_loopw [4,5] (fun i j W=>∃(k:Nat) (ys:List Int),k<=n/\ys.length=n/\i=.int .i64 k/\j=.int .i64 ((n:Int) - 1 - k)/\Blk W w.heap.size 3 (i64s ys)/\Ch (fun _=>False) w W) (fun i _ _=>n - (intOf i).toNat)
  case atStart=>exact ⟨0,xs,Nat.zero_le _,Hx.out,rfl,by simp,HG.out,HC.out⟩
  case round=>
   (
 clear HG HC Hx
 obtain ⟨k,ys,hk,hl,rfl,rfl,hG,hC⟩:=hrel
 have HG:=hid hG
 have HC:=hid hC
 have HL:=hid hl
 clear hG hC hl
 by_cases hlt:(k:Int) < (n:Int) - 1 - k
 ·obtain ⟨m,hm⟩:∃m:Nat,m=n - 1 - k:=⟨_,rfl⟩
  rw [show ((n:Int) - 1 - (k:Int))=(m:Int) by omega] at hlt |-
  have hkm:k < m:=by omega
  have hmn:m < n:=by omega
  have hkn:k < n:=by omega
  have hM:=hid hm
  clear hm
  have e1:decide ((k:Int) < (m:Int))=true:=decide_eq_true hlt
  have e2:decide (k < m)=true:=decide_eq_true hkm
  have ck:wr.cell? ⟨w.heap.size,k,none⟩=some (.int .i64 (lk ys k)):=(HG.out.cell k).trans (i64s_get ys k (by rw [HL.out];exact hkn))
  have cm:wr.cell? ⟨w.heap.size,m,none⟩=some (.int .i64 (lk ys m)):=(HG.out.cell m).trans (i64s_get ys m (by rw [HL.out];exact hmn))
  have fk:=HG.out.free k
  have fm:=HG.out.free m
  have d1:k≠m:=by omega
  have d2:m≠k:=by omega
  go_wp2_with fail
  refine Mix.rt [0,0,1,1,0,0,0,0,0,0,0,0,0,2,0,2] [0,1,2,3,4,5,6,7,8,9,10,11,12,13,14,15] ?_
  repeat (first | (refine Mix.zq ?_;go_big_quiet_step (fail);refine wpQuiet_nil ?_) | (refine Mix.zp ?_;go_big_quiet_step (fail);refine wpQuiet_nil ?_))
  refine Mix.ze fun W1 hW1=>?_
  obtain ⟨k1,rfl⟩:=hW1
  go_wp2_with fail
  refine Mix.mix_world fun W2 hW2=>?_
  have G2:=hid (show Blk W2 w.heap.size 3 (i64s (ys.set k (lk ys m))) from by rw [hW2,<-i64s_set];exact (HG.out.drewN k1).put k _)
  have C2:=hid (show Ch (fun _=>False) w W2 from by rw [hW2];exact (HC.out.drewN k1).set (fun ho=>absurd ho (Nat.lt_irrefl _)) _)
  have q1:W2.cell? ⟨w.heap.size,m,none⟩=some (.int .i64 (lk ys m)):=(G2.out.cell m).trans ((i64s_get _ m (by rw [List.length_set,HL.out];exact hmn)).trans (by simp [lk,d1]))
  have q2:=G2.out.free m
  clear hW2 ck cm fk fm
  repeat (first | (refine Mix.zq ?_;go_big_quiet_step (fail);refine wpQuiet_nil ?_) | (refine Mix.zp ?_;go_big_quiet_step (fail);refine wpQuiet_nil ?_))
  refine Mix.ze fun W3 hW3=>?_
  obtain ⟨k2,rfl⟩:=hW3
  go_wp2_with fail
  intro k3
  go_wp2_with fail
  refine ⟨⟨k+1,(ys.set k (lk ys m)).set m (lk ys k),hkn,by simp [HL.out],by push_cast;rfl,?_,?_,?_⟩,by simp only [intOf];omega⟩
  ·have:=hM.out
   congr 1
   omega
  ·rw [<-i64s_set];exact ((G2.out.drewN k2).put m _).drewN k3
  ·exact ((C2.out.drewN k2).set (fun ho=>absurd ho (Nat.lt_irrefl _)) _).drewN k3
 ·have e1:decide ((k:Int) < (n:Int) - 1 - k)=false:=decide_eq_false hlt
  go_wp2_with fail
  go_ret
  exact ⟨⟨_,rfl⟩,HC.out⟩
 )
theorem slots0 (n lb g1:Nat) (hn:n<=16384) (w:World) (h1:w.cell? ⟨lb,1,none⟩=some (.slice (some ⟨g1,0,none⟩) n n)) (hb:∀k,k < n->w.cell? ⟨g1,k,none⟩=some (.int .u8 0)) :
  Calls Tryz.prog 90 #[.pointer (some ⟨lb,0,none⟩),.int .u8 2] w fun e w'=>e=.returned (.slice none 0 0)/\w'=w:=by
 have HB:=hid hb
 clear hb
 go_enter Tryz.func90,Tryz.ntmps90
 go_wp2_with fail
 go_loopw [5,16] (fun r i W=>∃k:Nat,k<=n/\r=.slice none 0 0/\i=.int .i64 k/\W=w) (fun _ i _=>n - (intOf i).toNat)
 case atStart=>exact ⟨0,Nat.zero_le _,rfl,rfl,rfl⟩
 case round=>
  obtain ⟨k,hk,rfl,rfl,rfl⟩:=hrel
  by_cases hlt:k < n
  ·have c:=HB.out k hlt
   go_wp2_with fail
   exact ⟨⟨k+1,hlt,by simp⟩,by simp only [intOf];omega⟩
  ·obtain rfl:k=n:=by omega
   go_wp2_with fail
   go_ret
   exact ⟨rfl,rfl⟩
theorem wd0 (n lb g1:Nat) (hn:n<=16384) (w:World) (h1:w.cell? ⟨lb,1,none⟩=some (.slice (some ⟨g1,0,none⟩) n n)) (hb:∀k,k < n->w.cell? ⟨g1,k,none⟩=some (.int .u8 0)) :
  Calls Tryz.prog 59 #[.pointer (some ⟨lb,0,none⟩)] w fun e w'=>e=.returned (.slice none 0 0)/\w'=w:=by
 go_enter Tryz.func59,Tryz.ntmps59
 go_wp2_with fail
 refine (slots0 n lb g1 hn w h1 hb).mono ?_
 rintro e _ ⟨rfl,rfl⟩
 go_wp2_with fail
 go_ret
 exact ⟨rfl,rfl⟩
structure StM (w:World) (ab n:Nat) (lb mb g0 g1:Nat) (xs:List Int):Prop where
 a:Blk w ab 164 #[.int .i64 n,.pointer (some ⟨lb,0,none⟩),.map (some mb),.int .i64 0,.int .i64 0,.int .i64 0]
 m:w.heap[mb]?=some (.map #[] 0)
 llt:lb < w.heap.size
 l0:w.cell? ⟨lb,0,none⟩=some (.slice (some ⟨g0,0,none⟩) n n)
 l1:w.cell? ⟨lb,1,none⟩=some (.slice (some ⟨g1,0,none⟩) n n)
 b0:Blk w g0 3 (i64s xs)
 b1:Blk w g1 213 (fillA (fun _=>.int .u8 0) (.int .u8 0) n n)
 len:xs.length=n
theorem StM.lt_m {w:World} {ab n lb mb g0 g1:Nat} {xs:List Int} (h:StM w ab n lb mb g0 g1 xs):mb < w.heap.size:=by
 have:=h.m
 exact (Array.getElem?_eq_some_iff.1 this).1
theorem StM.keep {w w':World} {ab n lb mb g0 g1:Nat} {xs:List Int} (h:StM w ab n lb mb g0 g1 xs) (c:Ch (fun _=>False) w w'):StM w' ab n lb mb g0 g1 xs:=
 ⟨c.blk h.a id,(c.block mb h.lt_m id).trans h.m,Nat.lt_of_lt_of_le h.llt c.size,(c.cell h.llt id).trans h.l0,(c.cell h.llt id).trans h.l1,c.blk h.b0 id,c.blk h.b1 id,h.len⟩
theorem wd0_q (n lb g1:Nat) (hn:n<=16384) (w:World) (h1:w.cell? ⟨lb,1,none⟩=some (.slice (some ⟨g1,0,none⟩) n n)) (hb:∀k,k < n->w.cell? ⟨g1,k,none⟩=some (.int .u8 0)) (k:Nat) :
  Calls Tryz.prog 59 #[.pointer (some ⟨lb,0,none⟩)] (w.drewN k) fun e w'=>e=.returned (.slice none 0 0)/\∃m,w'=w.drewN m:=
 (wd0 n lb g1 hn (w.drewN k) (by rw [<-h1];rfl) (fun j hj=>by rw [<-hb j hj];rfl)).mono fun e w' h=>⟨h.1,k,h.2⟩
theorem stats_ok (ab n lb mb g0 g1:Nat) (xs:List Int) (hn:n<=16384) (w:World) (h:StM w ab n lb mb g0 g1 xs) :
  Calls Tryz.prog 36 #[.pointer (some ⟨ab,0,none⟩)] w fun e w'=>e=.returned (.agg #[.int .i64 n,.int .i64 n,.int .i64 0,.int .i64 0,.int .i64 0,.int .i64 0,.int .i64 0])/\Ch (fun _=>False) w w':=by
 go_enter Tryz.func36,Tryz.ntmps36
 go_wp2_with fail
 refine at_world fun W hW=>?_
 have cW:Ch (fun _=>False) w W:=by rw [hW];exact (Ch.refl _ w).alloc _
 have bR:Blk W w.heap.size 97 #[.int .i64 0,.int .i64 0,.int .i64 0,.int .i64 0,.int .i64 0,.int .i64 0,.int .i64 0]:=by rw [hW];exact Blk.new w _ _
 have HW:=hid cW
 have HB:=hid bR
 have HM:=hid (h.keep cW)
 have hne:ab≠w.heap.size:=Nat.ne_of_lt h.a.lt
 clear hW cW bR h
 obtain ⟨S,hS⟩:∃S:Nat->Prop,∀k,S k↔k=ab:=⟨_,fun _=>Iff.rfl⟩
 have hSp:Mix.Has S ab:=(hS _).2 rfl
 have HS:=hid hS
 clear hS
 obtain ⟨a0,a1,a2,a3,a4,a5⟩:=HM.out.a.c6
 refine Mix.rg S [1,1,1,4,0,0,0,4,3,0,1,1,1,4,0,1,1,1,4,0,0,1,1,1,4,1,1,1,4,1,1,1,4,0,2] [0,1,2,3,4,5,6,7,10,11,12,13,15,16,17,18,21,22,23,24,25,26,27,28,29,30,31,32,8,9,14,19,20,33,34] ?_
 repeat ((first | refine Mix.zq ?_ | refine Mix.zp ?_ | refine Mix.zs ?_);go_big_quiet_step (fail);refine wpQuiet_nil ?_)
 refine Mix.za fun W1 hW1=>?_
 obtain ⟨k1,rfl⟩:=hW1
 go_wp2_with fail
 refine (free_len n lb g0 xs hn HM.out.len (W.drewN k1) HM.out.llt (by rw [<-HM.out.l0];rfl) (HM.out.b0.drewN k1)).mono ?_
 rintro e w2 ⟨A,rfl,hc⟩
 have HC:=hid (((Ch.refl (fun _=>False) W).drewN k1).trans hc (fun _ _ h=>h))
 have HM2:=hid (HM.out.keep HC.out)
 clear hc
 go_wp2_with fail
 refine ⟨fun j' hj'=>HC.out.block j' (Nat.lt_of_lt_of_le (by rw [(HS.out j').1 hj'];exact HM.out.a.lt) (Nat.le_refl _)) id,?_⟩
 clear a0 a1 a2 a3 a4 a5
 (refine Mix.zq ?_;go_big_quiet_step (fail);refine wpQuiet_nil ?_)
 repeat ((first | refine Mix.zq ?_ | refine Mix.zp ?_ | refine Mix.zs ?_);go_big_quiet_step (fail);refine wpQuiet_nil ?_)
 refine Mix.mix_v (by simp only [List.getElem?_toArray,List.getElem?_cons_zero,List.getElem?_cons_succ];exact rfl) rfl (.int .i64 0) rfl (fun W' hW'=>exec_len rfl rfl (run_len_map (w:=W') (P:=Tryz.prog) 162 _ mb #[] 0 (by kernel_rfl) (by obtain ⟨z,rfl⟩:=hW';exact HM2.out.m))) ?_
 simp only [Act.put,List.setIfInBounds_toArray,List.set_cons_succ,List.set_cons_zero]
 repeat (first | (refine Mix.zq ?_;go_big_quiet_step ((go_at_call 59;exact wd0_q n lb g1 hn _ HM2.out.l1 (fun k hk=>(HM2.out.b1.cell k).trans ((fillA_get _ _ _ _ _ hk).trans (by simp))) _));refine wpQuiet_nil ?_) | (refine Mix.zp ?_;go_big_quiet_step (fail);refine wpQuiet_nil ?_) | (refine Mix.zs ?_;go_big_quiet_step (fail);refine wpQuiet_nil ?_))
 have B2:=HC.out.blk HB.out id
 obtain ⟨r0,r1,r2,r3,r4,r5,r6⟩:=B2.c7
 obtain ⟨s0,s1,s2,s3,s4,s5,s6⟩:=B2.f7
 refine Mix.ze fun W3 hW3=>?_
 obtain ⟨k3,rfl⟩:=hW3
 go_wp2_with fail
 intro k4
 go_wp2_with fail
 refine at_world fun W7 hW7=>?_
 have B7:Blk W7 w.heap.size 97 #[.int .i64 n,.int .i64 n,.int .i64 0,.int .i64 0,.int .i64 0,.int .i64 0,.int .i64 0]:=by rw [hW7];exact (((((((((B2.drewN k3).put 0 _).put 1 _).put 2 _).put 3 _).put 4 _).put 5 _).put 6 _)).drewN k4
 have c7:Ch (fun k=>k=w.heap.size) w2 W7:=by rw [hW7];exact ((((((((((Ch.refl (fun k=>k=w.heap.size) w2).drewN k3).set (fun _=>rfl) _).set (fun _=>rfl) _).set (fun _=>rfl) _).set (fun _=>rfl) _).set (fun _=>rfl) _).set (fun _=>rfl) _).set (fun _=>rfl) _)).drewN k4
 obtain ⟨t0,t1,t2,t3,t4,t5,t6⟩:=B7.c7
 refine bodyPost_ret (v:=.agg #[.int .i64 n,.int .i64 n,.int .i64 0,.int .i64 0,.int .i64 0,.int .i64 0,.int .i64 0]) ?_ rfl ⟨rfl,(HW.out.trans HC.out (fun _ _ h=>h)).trans c7 (fun i hi e=>absurd hi (by omega))⟩
 clear hW7 c7
 simp [results,Tryz.results36,go_sem,t0,t1,t2,t3,t4,t5,t6]
def intsV (l:List Nat):List Value:=l.map fun n=>.int .i64 (Int.ofNat n)
def strsV (l:List ByteArray):List Value:=l.map .string
theorem tdiv_nat (a b:Nat):(a:Int).tdiv (b:Int)=((a / b:Nat):Int):=by rw [Int.ofNat_tdiv]
theorem tmod_nat (a b:Nat):(a:Int).tmod (b:Int)=((a % b:Nat):Int):=by rw [Int.ofNat_tmod]
theorem div_small {a b c:Nat} (h:a<=c):a / b<=c:=Nat.le_trans (Nat.div_le_self a b) h
theorem size1_any (bn bg n g i:Nat) (w:World) (h1:w.cell? ⟨bn,0,none⟩=some (.int .i64 (n:Int))) (h2:w.cell? ⟨bg,0,none⟩=some (.int .i64 (g:Int))) (hn:n<=1000000) (hg:0 < g) (hg':g<=1000000) :
  Calls Tryz.prog 155 #[.int .i64 (i:Int),.pointer (some ⟨bn,0,none⟩),.pointer (some ⟨bg,0,none⟩)] w fun e w'=>e=.returned (.int .i64 ((szAt n g i:Nat):Int))/\w=w':=by
 have hd:=hid (div_small (b:=g) hn)
 have hm:=Nat.mod_lt n hg
 have e1:(n:Int).tdiv (g:Int)=((n / g:Nat):Int):=tdiv_nat n g
 have e2:(n:Int).tmod (g:Int)=((n % g:Nat):Int):=tmod_nat n g
 obtain ⟨q,hq⟩:∃q,q=n / g:=⟨_,rfl⟩
 obtain ⟨r,hr⟩:∃r,r=n % g:=⟨_,rfl⟩
 rw [<-hq] at e1 hd
 rw [<-hr] at e2 hm
 have hqn:=hd.out
 have HR:=hid hr
 have HQ:=hid hq
 clear hr hq hd
 have nz:((g:Int) == 0)=false:=by rw [beq_eq_false_iff_ne];omega
 go_enter Tryz.func155,Tryz.ntmps155
 by_cases hi:i < r
 ·have d1:decide (i < r)=true:=decide_eq_true hi
  have d2:decide ((i:Int) < (r:Int))=true:=decide_eq_true (by omega)
  go_wp2_with fail
  go_ret
  refine ⟨?_,rfl⟩
  unfold szAt
  rw [<-HR.out,<-HQ.out,if_pos hi]
  push_cast
  rfl
 ·have d1:decide (i < r)=false:=decide_eq_false hi
  have d2:decide ((i:Int) < (r:Int))=false:=decide_eq_false (by omega)
  go_wp2_with fail
  go_ret
  refine ⟨?_,rfl⟩
  unfold szAt
  rw [<-HR.out,<-HQ.out,if_neg hi]
  rfl
theorem own_of_blk {w:World} {B g n size:Nat} {e:TypeId} {cs:Array Value} (h:Blk w g e cs) (hB:B<=g) (hs:cs.size=n * size) (hn:n<=maxLen):w.ownsRow B e size (.slice (some ⟨g,0,none⟩) n n) n cs.toList:=
 ⟨by simpa using hs,.inr ⟨g,n,cs,rfl,hB,h,Nat.le_refl _,hn,hs,by rw [<-hs,<-Array.length_toList,List.take_length]⟩⟩
def OwnInts (w w':World) (l:List Nat) (e:Ending):Prop:=∃v,e=.returned v/\w'.ownsRow w.heap.size 3 1 v l.length (intsV l)/\Ch (fun _=>False) w w'
theorem fill_sizes (n m:Nat):(fillA (fun i=>.int .i64 ((szAt n (grpN n m) i:Nat):Int)) (.int .i64 0) (grpN n m) (grpN n m)).toList=intsV (sizesN n m):=by
 simp only [fillA,intsV,sizesN,List.map_map]
 apply List.map_congr_left
 intro i hi
 rw [if_pos (List.mem_range.1 hi)]
 rfl
theorem sizes_any (n m:Nat) (hm:0 < m) (hm':m<=100000) (hn:n<=100000) (w:World) :
  Calls Tryz.prog 142 #[.int .i64 (n:Int),.int .i64 (m:Int)] w fun e w'=>OwnInts w w' (sizesN n m) e:=by
 go_enter Tryz.func142,Tryz.ntmps142
 by_cases h0:n=0
 ·subst h0
  go_wp2_with fail
  go_ret
  have e0:sizesN 0 m=[]:=by simp [sizesN,grpN]
  exact ⟨.slice none 0 0,rfl,by rw [e0];exact World.ownsRow_nil _ _ _ _,(Ch.refl (fun _=>False) w).alloc _⟩
 have hg0:=grp_pos (by omega:0 < n) hm
 have hgm:=(grp_le (n:=n) hm).2
 have hgl:grpN n m<=100000:=by
  have:grpN n m<=n:=by
   have h1:=grp_le (n:=n) hm
   rcases Nat.lt_or_ge n (grpN n m) with e | e
   ·exfalso
    have h2:m * (n+1)<=m * grpN n m:=Nat.mul_le_mul_left _ e
    have h3:m * (n+1)=m * n+m:=Nat.mul_succ _ _
    have h4:1 * n<=m * n:=Nat.mul_le_mul_right _ hm
    omega
   ·exact e
  omega
 have hgd:=hid (show grpN n m=n / m+(if 0 < n % m then 1 else 0) from rfl)
 have e1:(n:Int).tdiv (m:Int)=((n / m:Nat):Int):=tdiv_nat n m
 have e2:(n:Int).tmod (m:Int)=((n % m:Nat):Int):=tmod_nat n m
 have hq0:=div_small (b:=m) hn
 obtain ⟨q,hq⟩:∃q,q=n / m:=⟨_,rfl⟩
 obtain ⟨r,hr⟩:∃r,r=n % m:=⟨_,rfl⟩
 rw [<-hq] at e1 hq0
 rw [<-hr] at e2
 have hgd:=hid (show grpN n m=q+(if 0 < r then 1 else 0) by rw [hgd.out,hq,hr])
 obtain ⟨g,hg⟩:∃g,g=grpN n m:=⟨_,rfl⟩
 rw [<-hg] at hg0 hgl hgd
 have HG:=hid hg
 clear hq hr hg hgm
 have b0:((n:Int) == 0)=false:=by rw [beq_eq_false_iff_ne];omega
 have nz:((m:Int) == 0)=false:=by rw [beq_eq_false_iff_ne];omega
 have hmk:∀W:World,(Instr.makeSlice 77 (.int .i64 (g:Int)) (.int .i64 (g:Int))).run Tryz.prog W=.ok (.slice (some ⟨W.heap.size,0,none⟩) g g) (W.alloc (.cells (madeX (Value.cells (.int .i64 0)) (g * 1)) 3)):=fun W=>run_make_x (P:=Tryz.prog) 77 3 (.int .i64 0) 1 8 Tryz.underlying77 (by kernel_rfl) (by decide) g (by omega) W
 by_cases hr:0 < r
 ·obtain rfl:g=q+1:=by have:=hgd.out;rw [if_pos hr] at this;exact this
  have d1:decide (0 < r)=true:=decide_eq_true hr
  have d2:decide ((0:Int) < (r:Int))=true:=decide_eq_true (by omega)
  have hmk':∀W:World,(Instr.makeSlice 77 (.int .i64 ((q:Int)+1)) (.int .i64 ((q:Int)+1))).run Tryz.prog W=.ok (.slice (some ⟨W.heap.size,0,none⟩) (q+1) (q+1)) (W.alloc (.cells (madeX (Value.cells (.int .i64 0)) ((q+1) * 1)) 3)):=fun W=>by have:=hmk W;push_cast at this;exact this
  clear hmk
  go_wp2_with fail
  refine at_world fun W0 hW0=>?_
  have C0:=hid (show Ch (fun _=>False) w W0 from by rw [hW0];exact (((Ch.refl (fun _=>False) w).alloc _).alloc _).alloc _)
  have B0:=hid (show Blk W0 w.heap.size 3 #[.int .i64 (n:Int)] from by rw [hW0];exact ((Blk.new w _ _).alloc _).alloc _)
  have G0:=hid (show Blk W0 (w.heap.size+1) 3 #[.int .i64 ((q:Int)+1)] from by
   rw [hW0]
   have t:=(Blk.new (w.alloc (.cells #[.int .i64 (n:Int)] 3)) 3 #[.int .i64 ((q:Int)+1)]).alloc (.cells (madeX #[.int .i64 0] (q+1)) 3)
   simpa using t)
  have M0:=hid (show Blk W0 (w.heap.size+2) 3 (fillA (fun i=>.int .i64 ((szAt n (q+1) i:Nat):Int)) (.int .i64 0) (q+1) 0) from by
   rw [hW0,<-fillA_zero]
   have t:=Blk.new ((w.alloc (.cells #[.int .i64 (n:Int)] 3)).alloc (.cells #[.int .i64 ((q:Int)+1)] 3)) 3 (madeX #[.int .i64 0] (q+1))
   simpa using t)
  clear hW0
  go_loopw [24] (fun i W=>∃k,k<=(q+1)/\i=.int .i64 ((k:Nat):Int)/\Blk W (w.heap.size+2) 3 (fillA (fun i=>.int .i64 ((szAt n (q+1) i:Nat):Int)) (.int .i64 0) (q+1) k)/\Blk W w.heap.size 3 #[.int .i64 (n:Int)]/\Blk W (w.heap.size+1) 3 #[.int .i64 ((q:Int)+1)]/\Ch (fun _=>False) w W) (fun i _=>(q+1) - (intOf i).toNat)
  case atStart=>exact ⟨0,Nat.zero_le _,rfl,M0.out,B0.out,G0.out,C0.out⟩
  case round=>
   (
 clear C0 B0 G0 M0
 obtain ⟨k,hk,rfl,hM,hB,hG,hC⟩:=hrel
 by_cases hlt:k < (q+1)
 ·have c1:wr.cell? ⟨w.heap.size,0,none⟩=some (.int .i64 (n:Int)):=hB.cell 0
  have c2:wr.cell? ⟨w.heap.size+1,0,none⟩=some (.int .i64 ((q:Int)+1)):=hG.cell 0
  have c3:wr.cell? ⟨w.heap.size+2,k,none⟩=some (if k < k then .int .i64 ((szAt n (q+1) k:Nat):Int) else .int .i64 0):=(hM.cell k).trans (fillA_get _ _ _ _ _ hlt)
  have c4:=hM.free k
  have x1:decide (k < (q+1))=true:=decide_eq_true hlt
  have x2:decide ((k:Int) < ((q:Int)+1))=true:=decide_eq_true (by omega)
  have HM:=hid hM
  have HB:=hid hB
  have HGG:=hid hG
  have HC:=hid hC
  clear hM hB hG hC
  go_wp2_with fail
  refine (size1_any w.heap.size (w.heap.size+1) n (q+1) k wr c1 (by push_cast;exact c2) (by omega) (by omega) (by omega)).mono ?_
  rintro e w' ⟨rfl,rfl⟩
  go_wp2_with fail
  go_roundw
  case rel=>
   refine ⟨k+1,by omega,by go_num,?_,HB.out.far (by show w.heap.size≠w.heap.size+2;omega) _,HGG.out.far (by show w.heap.size+1≠w.heap.size+2;omega) _,HC.out.set (fun h=>absurd h (by omega)) _⟩
   rw [<-fillA_set (fun i=>.int .i64 ((szAt n (q+1) i:Nat):Int)) (.int .i64 0) (q+1) k hlt]
   exact HM.out.put k _
  case measure=>simp [intOf];omega
 ·obtain rfl:(q+1)=k:=by omega
  have x1:decide ((q+1) < (q+1))=false:=decide_eq_false (by omega)
  go_wp2_with fail
  go_ret
  refine ⟨_,rfl,?_,hC⟩
  have t:=own_of_blk (size:=1) (n:=(q+1)) hM (by omega:w.heap.size<=w.heap.size+2) (by rw [fillA_size];omega) (by unfold maxLen;omega)
  rw [show (fillA (fun i=>.int .i64 ((szAt n (q+1) i:Nat):Int)) (.int .i64 0) (q+1) (q+1)).toList=intsV (sizesN n m) from by rw [HG.out];exact fill_sizes n m] at t
  rw [sizes_len,<-HG.out]
  exact t
 )
 ·obtain rfl:g=q:=by have:=hgd.out;rw [if_neg hr] at this;exact this
  have d1:decide (0 < r)=false:=decide_eq_false hr
  have d2:decide ((0:Int) < (r:Int))=false:=decide_eq_false (by omega)
  go_wp2_with fail
  refine at_world fun W0 hW0=>?_
  have C0:=hid (show Ch (fun _=>False) w W0 from by rw [hW0];exact (((Ch.refl (fun _=>False) w).alloc _).alloc _).alloc _)
  have B0:=hid (show Blk W0 w.heap.size 3 #[.int .i64 (n:Int)] from by rw [hW0];exact ((Blk.new w _ _).alloc _).alloc _)
  have G0:=hid (show Blk W0 (w.heap.size+1) 3 #[.int .i64 (g:Int)] from by
   rw [hW0]
   have t:=(Blk.new (w.alloc (.cells #[.int .i64 (n:Int)] 3)) 3 #[.int .i64 (g:Int)]).alloc (.cells (madeX #[.int .i64 0] g) 3)
   simpa using t)
  have M0:=hid (show Blk W0 (w.heap.size+2) 3 (fillA (fun i=>.int .i64 ((szAt n g i:Nat):Int)) (.int .i64 0) g 0) from by
   rw [hW0,<-fillA_zero]
   have t:=Blk.new ((w.alloc (.cells #[.int .i64 (n:Int)] 3)).alloc (.cells #[.int .i64 (g:Int)] 3)) 3 (madeX #[.int .i64 0] g)
   simpa using t)
  clear hW0
  go_loopw [24] (fun i W=>∃k,k<=g/\i=.int .i64 ((k:Nat):Int)/\Blk W (w.heap.size+2) 3 (fillA (fun i=>.int .i64 ((szAt n g i:Nat):Int)) (.int .i64 0) g k)/\Blk W w.heap.size 3 #[.int .i64 (n:Int)]/\Blk W (w.heap.size+1) 3 #[.int .i64 (g:Int)]/\Ch (fun _=>False) w W) (fun i _=>g - (intOf i).toNat)
  case atStart=>exact ⟨0,Nat.zero_le _,rfl,M0.out,B0.out,G0.out,C0.out⟩
  case round=>
   (
 clear C0 B0 G0 M0
 obtain ⟨k,hk,rfl,hM,hB,hG,hC⟩:=hrel
 by_cases hlt:k < g
 ·have c1:wr.cell? ⟨w.heap.size,0,none⟩=some (.int .i64 (n:Int)):=hB.cell 0
  have c2:wr.cell? ⟨w.heap.size+1,0,none⟩=some (.int .i64 (g:Int)):=hG.cell 0
  have c3:wr.cell? ⟨w.heap.size+2,k,none⟩=some (if k < k then .int .i64 ((szAt n g k:Nat):Int) else .int .i64 0):=(hM.cell k).trans (fillA_get _ _ _ _ _ hlt)
  have c4:=hM.free k
  obtain ⟨x1,x2⟩:=dc_ltT (a:=k) (b:=g) (by omega)
  have HM:=hid hM
  have HB:=hid hB
  have HGG:=hid hG
  have HC:=hid hC
  clear hM hB hG hC
  go_wp2_with fail
  refine (size1_any w.heap.size (w.heap.size+1) n g k wr c1 (by push_cast;exact c2) (by omega) (by omega) (by omega)).mono ?_
  rintro e w' ⟨rfl,rfl⟩
  go_wp2_with fail
  go_roundw
  case rel=>
   refine ⟨k+1,by omega,by go_num,?_,HB.out.far (by show w.heap.size≠w.heap.size+2;omega) _,HGG.out.far (by show w.heap.size+1≠w.heap.size+2;omega) _,HC.out.set (fun h=>absurd h (by omega)) _⟩
   rw [<-fillA_set (fun i=>.int .i64 ((szAt n g i:Nat):Int)) (.int .i64 0) g k hlt]
   exact HM.out.put k _
  case measure=>simp [intOf];omega
 ·obtain rfl:g=k:=by omega
  have x1:decide (g < g)=false:=decide_eq_false (by omega)
  go_wp2_with fail
  go_ret
  refine ⟨_,rfl,?_,hC⟩
  have t:=own_of_blk (size:=1) (n:=g) hM (by omega:w.heap.size<=w.heap.size+2) (by rw [fillA_size];omega) (by unfold maxLen;omega)
  rw [show (fillA (fun i=>.int .i64 ((szAt n g i:Nat):Int)) (.int .i64 0) g g).toList=intsV (sizesN n m) from by rw [HG.out];exact fill_sizes n m] at t
  rw [sizes_len,<-HG.out]
  exact t
 )
theorem even_any (n m:Nat) (hm:0 < m) (hm':m<=100000) (hn:n<=65536) (w:World) :
  Calls Tryz.prog 117 #[.int .i64 (n:Int),.int .i64 (m:Int)] w fun e w'=>∃v,e=.returned (.tuple #[v,.int .i64 0])/\w'.ownsRow w.heap.size 3 1 v (sizesN n m).length (intsV (sizesN n m))/\Ch (fun _=>False) w w':=by
 have a1:decide ((n:Int) < 0)=false:=decide_eq_false (by omega)
 have a2:decide ((m:Int) < 1)=false:=decide_eq_false (by omega)
 have a3:decide ((65536:Int) < (n:Int))=false:=decide_eq_false (by omega)
 have a4:decide (65536 < n)=false:=decide_eq_false (by omega)
 go_enter Tryz.func117,Tryz.ntmps117
 go_wp2_with fail
 refine (sizes_any n m hm hm' (by omega) w).mono ?_
 rintro e w' ⟨v,rfl,ho,hc⟩
 go_wp2_with fail
 go_ret2
 exact ⟨_,rfl,ho,hc⟩
def OwnStrs (w w':World) (l:List ByteArray) (e:Ending):Prop:=∃v,e=.returned v/\w'.ownsRow w.heap.size 9 1 v l.length (strsV l)/\Ch (fun _=>False) w w'
theorem infoStr:(Tryz.prog.info? 9).map (fun i=>(i.zero,i.size,i.bytes))=some (some (Value.string ByteArray.empty),1,16):=by kernel_rfl
theorem chunks_any (s:ByteArray) (hs:s.size<=65536) (w:World) :
  Calls Tryz.prog 116 #[.string s] w fun e w'=>OwnStrs w w' (chunksS s) e:=by
 obtain ⟨i0,hi,hz0,hz1,hz2⟩:=info_parts infoStr
 have hsum:=sizes_sum s.size 16 (by decide)
 obtain ⟨ns,hns⟩:∃ns,ns=sizesN s.size 16:=⟨_,rfl⟩
 have hch:chunksS s=cutS ns s:=by rw [hns];rfl
 have hnl:ns.length<=10000:=by
  rw [hns,sizes_len]
  have:=(grp_le (n:=s.size) (m:=16) (by decide)).2
  omega
 rw [<-hns] at hsum
 rw [hch]
 have HNS:=hid hns
 clear hns hch
 go_enter Tryz.func116,Tryz.ntmps116
 go_wp2_with fail
 refine (sizes_any s.size 16 (by decide) (by decide) (by omega) w).mono ?_
 rintro e w1 ⟨v1,rfl,ho1,hc1⟩
 rw [<-HNS.out] at ho1
 obtain ⟨A1,cap1,rfl,_⟩:=own_slice ho1
 have HO:=hid ho1
 have HC:=hid hc1
 clear ho1 hc1
 go_wp2_with fail
 go_loopw [0,3,10] (fun x v i W=>∃(k:Nat) (r:ByteArray),k<=ns.length/\i=.int .i64 (k:Int)/\x=.string r/\(cutS ns s).drop k=cutS (ns.drop k) r/\(ns.drop k).sum=r.size/\W.ownsRow w1.heap.size 9 1 v k (strsV ((cutS ns s).take k))/\Ch (fun _=>False) w1 W) (fun _ _ i _=>ns.length - (intOf i).toNat)
 case atStart=>exact ⟨0,s,Nat.zero_le _,rfl,rfl,rfl,hsum,World.ownsRow_nil _ _ _ _,Ch.refl _ _⟩
 case round=>
  obtain ⟨k,r,hk,rfl,rfl,hd,hr,hown,hch⟩:=hrel
  by_cases hlt:k < ns.length
  {
 obtain ⟨g,cg,hv,_,_,_,hgl⟩:=own_form HO.out (by omega)
 injection hv with hA _ hcg
 subst hA hcg
 obtain ⟨z,hz⟩:∃z,ns[k]?=some z:=⟨_,List.getElem?_eq_getElem hlt⟩
 have c0:wr.cell? ⟨g,k,none⟩=some (.int .i64 (z:Int)):=by
  have t:=HO.out.cells (g:=g) rfl k _ (by rw [intsV,List.getElem?_map,hz];rfl)
  rw [addr_add0] at t
  exact (hch.cell (p:=⟨g,_,none⟩) hgl id).trans t
 have hzr:z<=r.size:=by
  rw [<-hr,List.drop_eq_getElem_cons hlt]
  have:=(List.getElem?_eq_some_iff.1 hz).2
  simp [this]
 have hd1:(cutS ns s)[k]?=some (r.extract 0 z):=by
  have t:((cutS ns s).drop k)[0]?=(cutS (ns.drop k) r)[0]?:=by rw [hd]
  rw [List.getElem?_drop,Nat.add_zero] at t
  rw [t,List.drop_eq_getElem_cons hlt,(List.getElem?_eq_some_iff.1 hz).2]
  rfl
 have hd2:(cutS ns s).drop (k+1)=cutS (ns.drop (k+1)) (r.extract z r.size):=by
  have t:((cutS ns s).drop k).drop 1=(cutS (ns.drop k) r).drop 1:=by rw [hd]
  rw [List.drop_drop] at t
  rw [t,List.drop_eq_getElem_cons hlt,(List.getElem?_eq_some_iff.1 hz).2]
  rfl
 have hr2:(ns.drop (k+1)).sum=(r.extract z r.size).size:=by
  rw [ByteArray.size_extract]
  rw [List.drop_eq_getElem_cons hlt,(List.getElem?_eq_some_iff.1 hz).2,List.sum_cons] at hr
  omega
 have htk:strsV ((cutS ns s).take (k+1))=strsV ((cutS ns s).take k)++[.string (r.extract 0 z)]:=by
  have hkl:=List.getElem?_eq_some_iff.1 hd1
  rw [List.take_succ_eq_append_getElem hkl.1,hkl.2]
  simp [strsV]
 have Htk:=hid htk
 have HD:=hid hd2
 have HR:=hid hr2
 have hr65:r.size<=65536:=by
  have:((ns.take k).sum+(ns.drop k).sum)=ns.sum:=by rw [<-List.sum_append,List.take_append_drop]
  omega
 clear hd1 hd2 hr2 htk hd hr hz
 obtain ⟨A0,cap0,hv0,_⟩:=own_slice hown
 subst hv0
 have x1:decide (k < ns.length)=true:=decide_eq_true hlt
 have x2:decide ((k:Int) < (ns.length:Int))=true:=decide_eq_true (by omega)
 go_wp2_with (at_builtin;refine wpList_app _ rfl (.tmp 14) (.tmp 18) 237 rfl w1.heap.size 9 i0 _ 1 16 Tryz.underlying237 hi hz0 hz1 hz2 rfl (by decide) _ _ _ rfl (hown.alloc _) ⟨wr.heap.size,0,none⟩ 1 1 [.string (r.extract 0 z)] rfl rfl ?c1 ?c2 (by decide) ?c3 ?c4 ?c5 ?c6)
 case c2=>rfl
 case c3=>unfold maxLen;omega
 case c4=>omega
 case c5=>exact Nat.le_trans hch.size (by simp)
 case c6=>
  intro v' w' hown' hgrow hfresh
  have hch':Ch (fun _=>False) w1 w':=(hch.alloc _).grown hgrow (fun g hg hl=>by
   have:=(hown.lt g hg).1
   omega)
  go_wp2_with fail
  go_roundw
  case rel=>exact ⟨k+1,r.extract z r.size,by omega,by go_num,rfl,HD.out,HR.out,by rw [Htk.out];exact hown',hch'⟩
  case measure=>simp [intOf];omega
 }
  ·obtain rfl:k=ns.length:=by omega
   have x1:decide (ns.length < ns.length)=false:=decide_eq_false (by omega)
   go_wp2_with fail
   go_ret
   rw [List.take_of_length_le (by rw [cutS_len];exact Nat.le_refl _)] at hown
   exact ⟨_,rfl,by rw [cutS_len];exact own_mono hown HC.out.size,HC.out.trans hch (fun _ _ h=>h)⟩
inductive TreeAt (w:World) (S:Nat->Prop):T->List Value->Prop where
 | leaf (s:ByteArray):TreeAt w S (.leaf s) [.int .u64 0,.int .i64 0,.int .i64 0,.int .i64 0,.int .i64 0,.string s,.slice none 0 0]
 | node (h:Nat) (ks:List T) (b off c:Nat) (css:List (List Value)) (hS:S b) (hb:b < w.heap.size) (hne:0 < ks.length) (hl:css.length=ks.length) (hk:∀(i:Nat) (t:T) (cs:List Value),ks[i]?=some t->css[i]?=some cs->TreeAt w S t cs) (hc:∀(j:Nat) (v:Value),css.flatten[j]?=some v->w.cell? ⟨b,off+j,none⟩=some v) :
   TreeAt w S (.node h ks) [.int .u64 0,.int .i64 (Int.ofNat h),.int .i64 0,.int .i64 0,.int .i64 0,.string ⟨#[]⟩,.slice (some ⟨b,off,none⟩) ks.length c]
theorem TreeAt.len {w:World} {S:Nat->Prop} {t:T} {cs:List Value} (h:TreeAt w S t cs):cs.length=7:=by cases h <;> rfl
theorem TreeAt.form {w:World} {S:Nat->Prop} {t:T} {cs:List Value} (h:TreeAt w S t cs):∃s a n c,cs=[.int .u64 0,.int .i64 (Int.ofNat t.ht),.int .i64 0,.int .i64 0,.int .i64 0,.string s,.slice a n c]:=by
 cases h with
 | leaf s=>exact ⟨s,_,_,_,rfl⟩
 | node h ks b off c css=>exact ⟨_,_,_,_,rfl⟩
theorem TreeAt.keep {w w':World} {S S':Nat->Prop} {fp:Nat->Prop} (c:Ch fp w w') (hS:∀k,k < w.heap.size->S k->¬fp k) (hS':∀k,k < w.heap.size->S k->S' k):∀{t:T} {cs:List Value},TreeAt w S t cs->TreeAt w' S' t cs:=by
 intro t cs h
 induction h with
 | leaf s=>exact .leaf s
 | node h ks b off c0 css hb hlt hne hl hk hc ih=>
  exact .node h ks b off c0 css (hS' b hlt hb) (Nat.lt_of_lt_of_le hlt c.size) hne hl ih (fun j v hj=>(c.cell (p:=⟨b,_,none⟩) hlt (hS b hlt hb)).trans (hc j v hj))
def InTs (w:World) (S:Nat->Prop) (a:Option Addr) (n:Nat) (ts:List T):Prop:=
 ts.length=n/\(0 < n->∃b off,∃css:List (List Value),a=some ⟨b,off,none⟩/\S b/\b < w.heap.size/\css.length=ts.length/\(∀(i:Nat) (t:T) (cs:List Value),ts[i]?=some t->css[i]?=some cs->TreeAt w S t cs)/\∀(j:Nat) (v:Value),css.flatten[j]?=some v->w.cell? ⟨b,off+j,none⟩=some v)
theorem InTs.keep {w w':World} {S S' fp:Nat->Prop} {a:Option Addr} {n:Nat} {ts:List T} (h:InTs w S a n ts) (c:Ch fp w w') (hS:∀k,k < w.heap.size->S k->¬fp k) (hS':∀k,k < w.heap.size->S k->S' k):InTs w' S' a n ts:=by
 refine ⟨h.1,fun h0=>?_⟩
 obtain ⟨b,off,css,rfl,hb,hlt,hl,hk,hc⟩:=h.2 h0
 exact ⟨b,off,css,rfl,hS' b hlt hb,Nat.lt_of_lt_of_le hlt c.size,hl,fun i t cs hi hi'=>(hk i t cs hi hi').keep c hS hS',fun j v hj=>(c.cell (p:=⟨b,_,none⟩) hlt (hS b hlt hb)).trans (hc j v hj)⟩
def RowT (w:World) (B:Nat) (S:Nat->Prop) (v:Value) (ts:List T):Prop:=
 ∃css:List (List Value),css.length=ts.length/\(∀(i:Nat) (t:T) (cs:List Value),ts[i]?=some t->css[i]?=some cs->TreeAt w (fun k=>S k/\¬v.ownBlock=some k) t cs)/\w.ownsRow B 183 7 v ts.length css.flatten
theorem flat7:∀(css:List (List Value)),(∀cs ∈ css,cs.length=7)->∀(i j:Nat) (cs:List Value) (v:Value),css[i]?=some cs->cs[j]?=some v->css.flatten[i * 7+j]?=some v
 | [],_,i,j,cs,v,h,_=>by simp at h
 | x::css,hl,0,j,cs,v,h,hv=>by
  injection h with h
  subst h
  have hlt:j < x.length:=(List.getElem?_eq_some_iff.1 hv).1
  rw [List.flatten_cons,Nat.zero_mul,Nat.zero_add,List.getElem?_append_left hlt]
  exact hv
 | x::css,hl,i+1,j,cs,v,h,hv=>by
  have t:=flat7 css (fun c hc=>hl c (List.mem_cons_of_mem _ hc)) i j cs v (by simpa using h) hv
  have hx:=hl x (by simp)
  rw [List.flatten_cons,List.getElem?_append_right (by omega),show (i+1) * 7+j - x.length=i * 7+j by omega]
  exact t
theorem css_len {w:World} {S:Nat->Prop} {ts:List T} {css:List (List Value)} (hl:css.length=ts.length) (h:∀(i:Nat) (t:T) (cs:List Value),ts[i]?=some t->css[i]?=some cs->TreeAt w S t cs):∀cs ∈ css,cs.length=7:=by
 intro cs hcs
 obtain ⟨i,hi⟩:=List.getElem?_of_mem hcs
 have hlt:=(List.getElem?_eq_some_iff.1 hi).1
 exact (h i _ cs (List.getElem?_eq_getElem (by omega:i < ts.length)) hi).len
theorem flat_len:∀(css:List (List Value)),(∀cs ∈ css,cs.length=7)->css.flatten.length=css.length * 7
 | [],_=>rfl
 | x::css,h=>by
  have:=flat_len css (fun c hc=>h c (List.mem_cons_of_mem _ hc))
  have hx:=h x (by simp)
  simp only [List.flatten_cons,List.length_append,List.length_cons]
  omega
theorem InTs.at {w:World} {S:Nat->Prop} {b off n:Nat} {ts:List T} (h:InTs w S (some ⟨b,off,none⟩) n ts) (i:Nat) (t:T) (hi:ts[i]?=some t):∃cs,TreeAt w S t cs/\b < w.heap.size/\S b/\∀(j:Nat) (v:Value),cs[j]?=some v->w.cell? ⟨b,off+(i * 7+j),none⟩=some v:=by
 have hlt:=(List.getElem?_eq_some_iff.1 hi).1
 obtain ⟨b',off',css,hv,hb,hlb,hl,hk,hc⟩:=h.2 (by have:=h.1;omega)
 injection hv with hv
 injection hv with h1 h2
 subst h1 h2
 have hi':css[i]?=some (css[i]'(by omega)):=List.getElem?_eq_getElem _
 exact ⟨_,hk i t _ hi hi',hlb,hb,fun j v hj=>hc _ v (flat7 css (css_len hl hk) i j _ v hi' hj)⟩
theorem InTs.some {w:World} {S:Nat->Prop} {a:Option Addr} {n:Nat} {ts:List T} (h:InTs w S a n ts) (h0:0 < n):∃b off,a=Option.some ⟨b,off,none⟩:=by
 obtain ⟨b,off,css,hv,_⟩:=h.2 h0
 exact ⟨b,off,hv⟩
theorem RowT.nil (w:World) (B:Nat) (S:Nat->Prop):RowT w B S (.slice none 0 0) []:=⟨[],rfl,fun i t cs h=>by simp at h,World.ownsRow_nil _ _ _ _⟩
theorem RowT.keep {w w':World} {B:Nat} {S:Nat->Prop} {v:Value} {ts:List T} (h:RowT w B S v ts) {fp:Nat->Prop} (c:Ch fp w w') (hf:∀k,k < w.heap.size->¬fp k):RowT w' B S v ts:=by
 obtain ⟨css,hl,hk,ho⟩:=h
 exact ⟨css,hl,fun i t cs hi hi'=>(hk i t cs hi hi').keep c (fun k hk' _=>hf k hk') (fun _ _ h=>h),c.own ho (fun k hk'=>hf k (ho.lt k hk').2)⟩
theorem RowT.slice {w:World} {B:Nat} {S:Nat->Prop} {v:Value} {ts:List T} (h:RowT w B S v ts):∃a c,v=.slice a ts.length c/\ts.length<=c:=by
 obtain ⟨css,hl,hk,ho⟩:=h
 obtain ⟨a,c,hv,h1⟩:=own_slice ho
 exact ⟨a,c,hv,h1⟩
theorem RowT.reads {w:World} {B:Nat} {S:Nat->Prop} {a:Option Addr} {n c:Nat} {ts:List T} (h:RowT w B S (.slice a n c) ts) (S':Nat->Prop) (hS:∀k,k < w.heap.size->S k\/B<=k->S' k):InTs w S' a n ts:=by
 obtain ⟨css,hl,hk,ho⟩:=h
 obtain ⟨a',c',hv,_⟩:=own_slice ho
 injection hv with h1 h2 h3
 subst h1 h2 h3
 refine ⟨rfl,fun h0=>?_⟩
 obtain ⟨g,cap,hv,_,_,hgB,hg⟩:=own_form ho h0
 injection hv with h1
 subst h1
 refine ⟨g,0,css,rfl,hS g hg (.inr hgB),hg,hl,fun i t cs hi hi'=>(hk i t cs hi hi').keep (Ch.refl (fun _=>False) w) (fun _ _ _=>id) (fun k hk h=>hS k hk (.inl h.1)),fun j v hj=>?_⟩
 have t:=ho.cells (g:=g) rfl j v hj
 rw [addr_add0] at t
 rw [Nat.zero_add]
 exact t
theorem RowT.snoc {w w1 w':World} {B:Nat} {S:Nat->Prop} {v v':Value} {ts:List T} {t:T} {cs:List Value} {css:List (List Value)} (hl:css.length=ts.length) (hk:∀(i:Nat) (t:T) (cs:List Value),ts[i]?=some t->css[i]?=some cs->TreeAt w (fun k=>S k/\¬v.ownBlock=some k) t cs) (ht:TreeAt w (fun k=>S k/\¬v.ownBlock=some k) t cs) (c1:Ch (fun _=>False) w w1) (ho:w'.ownsRow B 183 7 v' (ts.length+1) (css.flatten++cs)) (hg:w1.grownBy w' v.ownBlock) (hf:Fresh w1 v v'):RowT w' B S v' (ts++[t]):=by
 have c:Ch (fun k=>v.ownBlock=some k) w w':=(c1.mono (fun _ _ e=>e.elim)).grown hg (fun k hk _=>hk)
 have hS':∀k,k < w.heap.size->(S k/\¬v.ownBlock=some k)->(S k/\¬v'.ownBlock=some k):=fun k hk hn=>⟨hn.1,fun hv=>by
  rcases hf with e | e
  ·exact hn.2 (e ▸ hv)
  ·have:=e k hv;have:=c1.size;omega⟩
 refine ⟨css++[cs],by simp [hl],fun i u cu hi hi'=>?_,?_⟩
 ·by_cases hlt:i < ts.length
  ·rw [List.getElem?_append_left hlt] at hi
   rw [List.getElem?_append_left (by omega)] at hi'
   exact (hk i u cu hi hi').keep c (fun _ _ h=>h.2) hS'
  ·have hlt':=(List.getElem?_eq_some_iff.1 hi).1
   simp at hlt'
   obtain rfl:i=ts.length:=by omega
   simp at hi
   rw [<-hl] at hi'
   simp at hi'
   subst hi hi'
   exact ht.keep c (fun _ _ h=>h.2) hS'
 ·rw [List.length_append,List.flatten_append]
  simpa using ho
theorem flat_take:∀(css:List (List Value)),(∀cs ∈ css,cs.length=7)->∀i,(css.drop i).flatten=css.flatten.drop (i * 7)
 | css,_,0=>by simp
 | [],_,i+1=>by simp
 | x::css,h,i+1=>by
  have hx:=h x (by simp)
  rw [List.drop_succ_cons,flat_take css (fun c hc=>h c (List.mem_cons_of_mem _ hc)) i,List.flatten_cons,List.drop_append,hx,show (i+1) * 7 - 7=i * 7 by omega,show List.drop ((i+1) * 7) x=[] from List.drop_eq_nil_of_le (by omega),List.nil_append]
theorem InTs.sub {w:World} {S:Nat->Prop} {b off n:Nat} {ts:List T} (h:InTs w S (Option.some ⟨b,off,none⟩) n ts) (i k:Nat) (hk:i+k<=n):InTs w S (Option.some ⟨b,off+i * 7,none⟩) k ((ts.drop i).take k):=by
 have hl:=h.1
 refine ⟨by rw [List.length_take,List.length_drop];omega,fun h0=>?_⟩
 obtain ⟨b',off',css,hv,hb,hlt,hcl,hk',hc⟩:=h.2 (by omega)
 injection hv with hv
 injection hv with h1 h2
 subst h1 h2
 have get:∀{α:Type} (l:List α) (j:Nat) (t:α),((l.drop i).take k)[j]?=Option.some t->l[i+j]?=Option.some t:=fun l j t hj=>by
  rw [List.getElem?_take] at hj
  split at hj
  ·rwa [List.getElem?_drop] at hj
  ·cases hj
 refine ⟨b,off+i * 7,(css.drop i).take k,rfl,hb,hlt,by rw [List.length_take,List.length_take,List.length_drop,List.length_drop,hcl],fun j t cs hj hj'=>hk' (i+j) t cs (get _ j t hj) (get _ j cs hj'),fun j v hj=>?_⟩
 have h7:=css_len hcl hk'
 have e:((css.drop i).take k).flatten++((css.drop i).drop k).flatten=(css.drop i).flatten:=by rw [<-List.flatten_append,List.take_append_drop]
 have hj2:(css.drop i).flatten[j]?=Option.some v:=by
  rw [<-e,List.getElem?_append_left (List.getElem?_eq_some_iff.1 hj).1]
  exact hj
 rw [flat_take css h7 i,List.getElem?_drop] at hj2
 rw [Nat.add_assoc]
 exact hc (i * 7+j) v hj2
theorem infoTree:(Tryz.prog.info? 183).map (fun i=>(i.zero,i.size,i.bytes))=some (some (Value.agg #[.int .u64 0,.int .i64 0,.int .i64 0,.int .i64 0,.int .i64 0,.string ByteArray.empty,.slice none 0 0]),7,80):=by kernel_rfl
theorem TreeAt.one {w:World} {S:Nat->Prop} {t:T} {cs:List Value} (h:TreeAt w S t cs):∀u ∈ cs,u.oneCell'=true:=by
 obtain ⟨s,a,n,c,rfl⟩:=h.form
 intro u hu
 simp at hu
 rcases hu with rfl | rfl | rfl | rfl | rfl | rfl | rfl | rfl <;> rfl
def GrpOut (S:Nat->Prop) (t:T) (w:World) (e:Ending) (w':World):Prop:=∃cs,e=.returned (.agg cs.toArray)/\TreeAt w' (fun k=>S k\/w.heap.size<=k) t cs/\Ch (fun _=>False) w w'
theorem group_one (S:Nat->Prop) (b off c:Nat) (t:T) (w:World) (h:InTs w S (some ⟨b,off,none⟩) 1 [t]) :
  Calls Tryz.prog 118 #[.slice (some ⟨b,off,none⟩) 1 c] w (GrpOut S t w):=by
 obtain ⟨cs,ht,hlt,hb,hc⟩:=h.at 0 t rfl
 obtain ⟨s,a,n,c',rfl⟩:=ht.form
 have c0:w.cell? ⟨b,off,none⟩=some (.int .u64 0):=hc 0 _ rfl
 have c1:w.cell? ⟨b,off+1,none⟩=some (.int .i64 (Int.ofNat t.ht)):=hc 1 _ rfl
 have c2:w.cell? ⟨b,off+2,none⟩=some (.int .i64 0):=hc 2 _ rfl
 have c3:w.cell? ⟨b,off+3,none⟩=some (.int .i64 0):=hc 3 _ rfl
 have c4:w.cell? ⟨b,off+4,none⟩=some (.int .i64 0):=hc 4 _ rfl
 have c5:w.cell? ⟨b,off+5,none⟩=some (.string s):=hc 5 _ rfl
 have c6:w.cell? ⟨b,off+6,none⟩=some (.slice a n c'):=hc 6 _ rfl
 have HT:=hid ht
 clear ht hc h
 have nb:b≠w.heap.size:=by omega
 have nb':w.heap.size≠b:=by omega
 go_enter Tryz.func118,Tryz.ntmps118
 go_wp2_with fail
 refine bodyPost_ret (v:=.agg #[.int .u64 0,.int .i64 (Int.ofNat t.ht),.int .i64 0,.int .i64 0,.int .i64 0,.string s,.slice a n c']) (by simp [results,Tryz.results118,go_sem]) rfl ⟨_,rfl,HT.out.keep (fp:=fun _=>False) ((Ch.refl (fun _=>False) w).alloc _) (fun _ _ _=>id) (fun _ _ h=>.inl h),(Ch.refl (fun _=>False) w).alloc _⟩
theorem group_many (S:Nat->Prop) (b off n c:Nat) (ts:List T) (w:World) (h:InTs w S (some ⟨b,off,none⟩) n ts) (hn:2<=n) (hn':n<=100000) (hh:(ts.headD (.leaf ByteArray.empty)).ht<=100000) :
  Calls Tryz.prog 118 #[.slice (some ⟨b,off,none⟩) n c] w (GrpOut S (.node ((ts.headD (.leaf ByteArray.empty)).ht+1) ts) w):=by
 obtain ⟨i0,hi,hz0,hz1,hz2⟩:=info_parts infoTree
 have hl:=h.1
 obtain ⟨t0,ht0⟩:∃t,ts[0]?=some t:=⟨_,List.getElem?_eq_getElem (by omega)⟩
 have hhd:ts.headD (.leaf ByteArray.empty)=t0:=by
  match ts,ht0 with
  | x::_,e=>simpa using e
 rw [hhd] at hh |-
 obtain ⟨cs,ht,hlt,hb,hc⟩:=h.at 0 t0 ht0
 obtain ⟨s,a,m,c',rfl⟩:=ht.form
 have c1:w.cell? ⟨b,off+1,none⟩=some (.int .i64 (Int.ofNat t0.ht)):=hc 1 _ rfl
 have HH:=hid h
 have x1:((n:Int) == 0)=false:=by rw [beq_eq_false_iff_ne];omega
 have x2:((n:Int) == 1)=false:=by rw [beq_eq_false_iff_ne];omega
 have HL:=hid hl
 have HN:=hid hn
 clear hc ht h hhd ht0 hl
 obtain ⟨q,hq⟩:∃q,q=t0.ht:=⟨_,rfl⟩
 rw [<-hq] at hh c1 |-
 have HQ:=hid hq
 clear hq
 go_enter Tryz.func118,Tryz.ntmps118
 go_wp2_with fail
 obtain ⟨b',off',css,hv,_,_,hcl,hk,hcell⟩:=HH.out.2 (by omega)
 injection hv with hv
 injection hv with h1 h2
 subst h1 h2
 have hcl':css.flatten.length=n * 7:=by rw [flat_len css (css_len hcl hk),hcl,HL.out]
 have H7:=hid (css_len hcl hk)
 have HK:=hid hk
 have HC:=hid hcell
 have HCL:=hid hcl
 have hone:∀u ∈ css.flatten,u.oneCell'=true:=by
  intro u hu
  obtain ⟨x,hx,hu⟩:=List.mem_flatten.1 hu
  obtain ⟨i,hi⟩:=List.getElem?_of_mem hx
  have hlt:=(List.getElem?_eq_some_iff.1 hi).1
  exact (hk i _ x (List.getElem?_eq_getElem (by omega:i < ts.length)) hi).one u hu
 have HONE:=hid hone
 clear hk hcell hcl hone
 have hS1:Mix.Has (fun k=>k=b) b:=rfl
 refine Mix.wp_region_mix (fun k=>k=b) (fun i=>([1,1,1,4,1,3,1,3,0,2]:List Nat).getD i 0) [0,1,2,3,4,6,5,7,8,9] (by kernel_rfl) (by kernel_rfl) ?_
 iterate 6 (first | (refine Mix.zp ?_;go_big_quiet_step (fail);refine wpQuiet_nil ?_) | (refine Mix.zs ?_;go_big_quiet_step (fail);refine wpQuiet_nil ?_))
 refine Mix.za fun W1 hW1=>?_
 obtain ⟨n1,rfl⟩:=hW1
 go_wp2_with fail
 refine ⟨fun j hj=>?_,?_⟩
 ·subst hj
  rw [heap_alloc_old _ _ (by show j < (w.alloc _).heap.size;simp;omega),show ((w.alloc (.cells #[.int .u64 0,.int .i64 0,.int .i64 0,.int .i64 0,.int .i64 0,.string ⟨#[]⟩,.slice none 0 0] 183)).drewN n1).heap[j]?=(w.alloc (.cells #[.int .u64 0,.int .i64 0,.int .i64 0,.int .i64 0,.int .i64 0,.string ⟨#[]⟩,.slice none 0 0] 183)).heap[j]? from rfl]
 refine Mix.mix_world fun V hV=>?_
 have CV:=hid (show Ch (fun _=>False) w V from by rw [hV];exact (((Ch.refl (fun _=>False) w).alloc _).drewN n1).alloc _)
 have BV:=hid (show Blk V w.heap.size 183 #[.int .u64 0,.int .i64 0,.int .i64 0,.int .i64 0,.int .i64 0,.string ⟨#[]⟩,.slice none 0 0] from by rw [hV];exact ((Blk.new w _ _).drewN n1).alloc _)
 have OV:=hid (show V.ownsRow (w.heap.size+1) 183 7 (.slice (some ⟨w.heap.size+1,0,none⟩) 0 0) 0 [] from by
  rw [hV]
  have t:=World.ownsRow_made (e:=183) (size:=7) (base:=w.heap.size+1) ((w.alloc (.cells #[.int .u64 0,.int .i64 0,.int .i64 0,.int .i64 0,.int .i64 0,.string ⟨#[]⟩,.slice none 0 0] 183)).drewN n1) #[] 0 (by simp) (Nat.zero_le _) rfl
  simpa using t)
 have hsz:=CV.out.size
 have hVz:w.heap.size+1<=V.heap.size:=by have:=(OV.out.lt (w.heap.size+1) rfl).2;omega
 clear hV
 refine Mix.za fun W2 hW2=>?_
 obtain ⟨n2,rfl⟩:=hW2
 have CV2:=hid ((Ch.refl (fun _=>False) V).drewN n2)
 refine wpList_app _ rfl _ _ 181 rfl (w.heap.size+1) 183 i0 _ 7 80 Tryz.underlying181 hi hz0 hz1 hz2 rfl (by decide) (.slice (some ⟨w.heap.size+1,0,none⟩) 0 0) 0 [] rfl (CV2.out.own OV.out (fun _ _=>id)) ⟨b,off,none⟩ n c css.flatten rfl hcl' ?c1 HONE.out (by omega) ?c3 ?c4 ?c5 ?_
 case c1=>
  intro j u hu
  rw [addr_add]
  exact (CV.out.cell (p:=⟨b,_,none⟩) hlt id).trans (HC.out j u hu)
 case c3=>unfold maxLen;omega
 case c4=>omega
 case c5=>exact hVz
 intro v' w' hown' hgrow hfresh
 rw [Nat.zero_add,List.nil_append] at hown'
 obtain ⟨g,cap,rfl,_,_,hgB,hgl⟩:=own_form hown' (by omega)
 have CR:=(show Ch (fun k=>k=w.heap.size+1) V w' from (CV2.out.mono (fun _ _ e=>e.elim)).grown hgrow (fun k hk _=>by have e:some (w.heap.size+1)=some k:=hk;exact (Option.some.inj e).symm))
 have C3:=hid (show Ch (fun _=>False) w w' from CV.out.trans CR (fun i hi e=>absurd hi (by omega)))
 have B3:=hid (show Blk w' w.heap.size 183 #[.int .u64 0,.int .i64 0,.int .i64 0,.int .i64 0,.int .i64 0,.string ⟨#[]⟩,.slice none 0 0] from (BV.out.drewN n2).grown hgrow (fun e=>by have e':some (w.heap.size+1)=some w.heap.size:=e;have:=Option.some.inj e';omega))
 have KB:=hid (CR.block b (by omega) (by omega))
 have OW:=hid hown'
 clear hown' hgrow hfresh CR
 have gne:g≠w.heap.size:=by omega
 obtain ⟨r0,r1,r2,r3,r4,r5,r6⟩:=B3.out.c7
 obtain ⟨s0,s1,s2,s3,s4,s5,s6⟩:=B3.out.f7
 go_wp2_with fail
 refine ⟨fun j hj=>by rw [show j=b from hj];exact KB.out,?_⟩
 (refine Mix.zq ?_;go_big_quiet_step (fail);refine wpQuiet_nil ?_)
 refine Mix.ze fun W4 hW4=>?_
 obtain ⟨n3,rfl⟩:=hW4
 go_wp2_with fail
 intro n4
 go_wp2_with fail
 refine at_world fun W6 hW6=>?_
 have C6:=hid (show Ch (fun k=>k=w.heap.size) w' W6 from by rw [hW6];exact (((((((((Ch.refl (fun k=>k=w.heap.size) w').drewN n3).set (fun _=>rfl) _).set (fun _=>rfl) _).set (fun _=>rfl) _).set (fun _=>rfl) _).set (fun _=>rfl) _).set (fun _=>rfl) _).set (fun _=>rfl) _).drewN n4)
 have B6:=hid (show Blk W6 w.heap.size 183 #[.int .u64 0,.int .i64 ((q:Int)+1),.int .i64 0,.int .i64 0,.int .i64 0,.string ⟨#[]⟩,.slice (some ⟨g,0,none⟩) n cap] from by rw [hW6];exact ((((((((B3.out.drewN n3).put 0 _).put 1 _).put 2 _).put 3 _).put 4 _).put 5 _).put 6 _).drewN n4)
 clear hW6 r0 r1 r2 r3 r4 r5 r6 s0 s1 s2 s3 s4 s5 s6
 obtain ⟨t0,t1,t2,t3,t4,t5,t6⟩:=B6.out.c7
 refine bodyPost_ret (v:=.agg #[.int .u64 0,.int .i64 ((q:Int)+1),.int .i64 0,.int .i64 0,.int .i64 0,.string ⟨#[]⟩,.slice (some ⟨g,0,none⟩) n cap]) (by simp [results,Tryz.results118,go_sem,t0,t1,t2,t3,t4,t5,t6]) rfl ⟨_,rfl,?_,C3.out.trans C6.out (fun i hi e=>absurd hi (by omega))⟩
 have hck:Ch (fun _=>False) w W6:=C3.out.trans C6.out (fun i hi e=>absurd hi (by omega))
 have t:=TreeAt.node (w:=W6) (S:=fun k=>S k\/w.heap.size<=k) (q+1) ts g 0 cap css (.inr (by omega)) (Nat.lt_of_lt_of_le hgl C6.out.size) (by have:=HL.out;omega) HCL.out (fun i u cs hi hi'=>(HK.out i u cs hi hi').keep hck (fun _ _ _=>id) (fun _ _ h=>.inl h)) (fun j v hj=>by
  have t:=OW.out.cells (g:=g) rfl j v hj
  rw [addr_add0] at t
  rw [Nat.zero_add]
  exact (C6.out.cell (p:=⟨g,_,none⟩) hgl gne).trans t)
 rw [HL.out] at t
 exact t
end Go.Proofs.YtjcdknhejcbpiaaGreat
