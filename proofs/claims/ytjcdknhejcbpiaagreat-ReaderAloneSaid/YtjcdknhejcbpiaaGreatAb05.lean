/- Lemmas that the proof of the last text leans on; no condition. -/
import Derived.Test.YtjcdknhejcbpiaaGreatAb03
import Derived.Test.YtjcdknhejcbpiaaGreatAb04
import Derived.Test.YtjcdknhejcbpiaaGreatAb02
import Derived.MapKept
set_option maxRecDepth 100000
set_option maxHeartbeats 1000000
namespace Go.Proofs.YtjcdknhejcbpiaaGreat
open Go.RowKit
set_option linter.unusedVariables false
set_option linter.unusedSimpArgs false
set_option linter.unusedSectionVars false
theorem exec_len {P:Program} {o:Oper} {a:Act} {x:Operand} {tys:Array TypeId} (ho:o.op=.call { callee:=.builtin .len,args:=#[x],argTypes:=tys }) {u v:Value} {W:World} (hx:a.eval x=u) (hr:(Builtin.len_ tys o.type #[u]).run P W=.ok v W):(execOp a.eval o).run P W=.ok (.value v) W:=by
 simp [execOp,ho,resolve,invoke,builtin,hx,hr,Result.andThen]
def i64s (l:List Int):Array Value:=(l.map (Value.int .i64)).toArray
theorem i64s_get (l:List Int) (i:Nat) (h:i < l.length):(i64s l)[i]?=some (.int .i64 (lk l i)):=by simp [i64s,lk,h]
theorem i64s_set (l:List Int) (i:Nat) (v:Int):(i64s l).setIfInBounds i (.int .i64 v)=i64s (l.set i v):=by simp [i64s,List.map_set]
theorem fill_i64s (f:Nat→Int) (n:Nat):fillA (fun i=>.int .i64 (f i)) (.int .i64 0) n n=i64s ((List.range n).map f):=by
 apply Array.ext
 ·simp [fillA_size,i64s]
 ·intro i h1 h2
  rw [fillA_size] at h1
  simp [fillA,i64s,h1]
theorem free_len (n:Nat) (lb g0:Nat) (xs:List Int) (hn:n≤16384) (hx:xs.length=n) (w:World) (hlb:lb < w.heap.size) (h0:w.cell? ⟨lb,0,none⟩=some (.slice (some ⟨g0,0,none⟩) n n)) (hb:Blk w g0 3 (i64s xs)) :
  Calls Tryz.prog 58 #[.pointer (some ⟨lb,0,none⟩)] w fun e w'=>∃A,e=.returned (.slice A n n)∧Ch (fun _=>False) w w':=by
 have hmk:=fun W:World=>run_make_x (P:=Tryz.prog) 77 3 (.int .i64 0) 1 8 Tryz.underlying77 (by kernel_rfl) (by decide) n (by omega) W
 have hsz1:(Tryz.prog.info? 3).map (·.size)=some 1:=by kernel_rfl
 have HB:=hid hb
 have Hx:=hid hx
 clear hb hx
 go_enter Tryz.func58,Tryz.ntmps58
 go_wp2_with (refine wpList_copy_full rfl (.tmp 14) (.tmp 18) 77 77 rfl 3 Tryz.underlying77 1 hsz1 w.heap.size n n (some ⟨g0,0,none⟩) n rfl rfl (madeX #[.int .i64 0] n) 3 ?k1 ?k2 (xs.map (Value.int .i64)) ?k3 ?k4 ?k5 ?k6)
 case k1=>exact Blk.push rfl
 case k2=>rw [madeX_size];omega
 case k3=>rw [List.length_map,Hx.out];omega
 case k4=>
  intro _
  refine ⟨_,rfl,fun j v hj=>?_⟩
  rw [addr_add0]
  refine (World.cell?_alloc_lt w _ _ HB.out.lt).trans ((HB.out.cell j).trans ?_)
  simpa [i64s] using hj
 case k5=>
  intro v hv
  obtain ⟨x,_,rfl⟩:=List.mem_map.1 hv
  rfl
 case k6=>
  intro w1 hb hc
  have HC:=hid (((Ch.refl (fun _=>False) w).alloc _).trans hc (fun i hi h=>absurd hi (by omega)))
  have HG:=hid (show Blk w1 w.heap.size 3 (i64s xs) from hb)
  clear hb hc h0 hlb hmk
  go_wp2_with fail
  go_loopw [4,5] (fun i j W=>∃(k:Nat) (ys:List Int),k≤n∧ys.length=n∧i=.int .i64 k∧j=.int .i64 ((n:Int) - 1 - k)∧Blk W w.heap.size 3 (i64s ys)∧Ch (fun _=>False) w W) (fun i _ _=>n - (intOf i).toNat)
  case atStart=>exact ⟨0,xs,Nat.zero_le _,Hx.out,rfl,by simp,HG.out,HC.out⟩
  case round=>
   clear HG HC Hx
   obtain ⟨k,ys,hk,hl,rfl,rfl,hG,hC⟩:=hrel
   have HG:=hid hG
   have HC:=hid hC
   have HL:=hid hl
   clear hG hC hl
   by_cases hlt:(k:Int) < (n:Int) - 1 - k
   ·obtain ⟨m,hm⟩:∃m:Nat,m=n - 1 - k:=⟨_,rfl⟩
    rw [show ((n:Int) - 1 - (k:Int))=(m:Int) by omega] at hlt ⊢
    have hkm:k < m:=by omega
    have hmn:m < n:=by omega
    have hkn:k < n:=by omega
    have hM:=hid hm
    clear hm
    have e1:decide ((k:Int) < (m:Int))=true:=decide_eq_true hlt
    have e2:decide (k < m)=true:=decide_eq_true hkm
    have ck:wr.cell? ⟨w.heap.size,k,none⟩=some (.int .i64 (lk ys k)):=(HG.out.cell k).trans (i64s_get ys k (by rw [HL.out];exact hkn))
    have cm:wr.cell? ⟨w.heap.size,m,none⟩=some (.int .i64 (lk ys m)):=(HG.out.cell m).trans (i64s_get ys m (by rw [HL.out];exact hmn))
    have fk:=HG.out.free k
    have fm:=HG.out.free m
    have d1:k≠m:=by omega
    have d2:m≠k:=by omega
    go_wp2_with fail
    refine Mix.wp_region_mix (fun _=>True) (fun i=>([0,0,1,1,0,0,0,0,0,0,0,0,0,2,0,2]:List Nat).getD i 0) [0,1,2,3,4,5,6,7,8,9,10,11,12,13,14,15] (by kernel_rfl) (by kernel_rfl) ?_
    repeat (first | (refine Mix.q1 rfl ?_;go_big_quiet_step (fail);refine wpQuiet_nil ?_) | (refine Mix.p1 rfl rfl ?_;go_big_quiet_step (fail);refine wpQuiet_nil ?_))
    refine Mix.e1 rfl fun W1 hW1=>?_
    obtain ⟨k1,rfl⟩:=hW1
    go_wp2_with fail
    refine Mix.mix_world fun W2 hW2=>?_
    have G2:=hid (show Blk W2 w.heap.size 3 (i64s (ys.set k (lk ys m))) from by rw [hW2,←i64s_set];exact (HG.out.drewN k1).put k _)
    have C2:=hid (show Ch (fun _=>False) w W2 from by rw [hW2];exact (HC.out.drewN k1).set (fun ho=>absurd ho (Nat.lt_irrefl _)) _)
    have q1:W2.cell? ⟨w.heap.size,m,none⟩=some (.int .i64 (lk ys m)):=(G2.out.cell m).trans ((i64s_get _ m (by rw [List.length_set,HL.out];exact hmn)).trans (by simp [lk,d1]))
    have q2:=G2.out.free m
    clear hW2 ck cm fk fm
    repeat (first | (refine Mix.q1 rfl ?_;go_big_quiet_step (fail);refine wpQuiet_nil ?_) | (refine Mix.p1 rfl rfl ?_;go_big_quiet_step (fail);refine wpQuiet_nil ?_))
    refine Mix.e1 rfl fun W3 hW3=>?_
    obtain ⟨k2,rfl⟩:=hW3
    go_wp2_with fail
    intro k3
    go_wp2_with fail
    refine ⟨⟨k+1,(ys.set k (lk ys m)).set m (lk ys k),hkn,by simp [HL.out],by push_cast;rfl,?_,?_,?_⟩,by simp only [intOf];omega⟩
    ·have:=hM.out
     congr 1
     omega
    ·rw [←i64s_set];exact ((G2.out.drewN k2).put m _).drewN k3
    ·exact ((C2.out.drewN k2).set (fun ho=>absurd ho (Nat.lt_irrefl _)) _).drewN k3
   ·have e1:decide ((k:Int) < (n:Int) - 1 - k)=false:=decide_eq_false hlt
    go_wp2_with fail
    go_ret
    exact ⟨⟨_,rfl⟩,HC.out⟩
theorem slots0 (n lb g1:Nat) (hn:n≤16384) (w:World) (h1:w.cell? ⟨lb,1,none⟩=some (.slice (some ⟨g1,0,none⟩) n n)) (hb:∀k,k < n→w.cell? ⟨g1,k,none⟩=some (.int .u8 0)) :
  Calls Tryz.prog 90 #[.pointer (some ⟨lb,0,none⟩),.int .u8 2] w fun e w'=>e=.returned (.slice none 0 0)∧w'=w:=by
 have HB:=hid hb
 clear hb
 go_enter Tryz.func90,Tryz.ntmps90
 go_wp2_with fail
 go_loopw [5,16] (fun r i W=>∃k:Nat,k≤n∧r=.slice none 0 0∧i=.int .i64 k∧W=w) (fun _ i _=>n - (intOf i).toNat)
 case atStart=>exact ⟨0,Nat.zero_le _,rfl,rfl,rfl⟩
 case round=>
  obtain ⟨k,hk,rfl,rfl,rfl⟩:=hrel
  by_cases hlt:k < n
  ·have c:=HB.out k hlt
   go_wp2_with fail
   exact ⟨⟨k+1,hlt,by simp⟩,by simp only [intOf];omega⟩
  ·obtain rfl:k=n:=by omega
   go_wp2_with fail
   go_ret
   exact ⟨rfl,rfl⟩
theorem wd0 (n lb g1:Nat) (hn:n≤16384) (w:World) (h1:w.cell? ⟨lb,1,none⟩=some (.slice (some ⟨g1,0,none⟩) n n)) (hb:∀k,k < n→w.cell? ⟨g1,k,none⟩=some (.int .u8 0)) :
  Calls Tryz.prog 59 #[.pointer (some ⟨lb,0,none⟩)] w fun e w'=>e=.returned (.slice none 0 0)∧w'=w:=by
 go_enter Tryz.func59,Tryz.ntmps59
 go_wp2_with fail
 refine (slots0 n lb g1 hn w h1 hb).mono ?_
 rintro e _ ⟨rfl,rfl⟩
 go_wp2_with fail
 go_ret
 exact ⟨rfl,rfl⟩
structure StM (w:World) (ab n:Nat) (lb mb g0 g1:Nat) (xs:List Int):Prop where
 a:Blk w ab 164 #[.int .i64 n,.pointer (some ⟨lb,0,none⟩),.map (some mb),.int .i64 0,.int .i64 0,.int .i64 0]
 m:w.heap[mb]?=some (.map #[] 0)
 llt:lb < w.heap.size
 l0:w.cell? ⟨lb,0,none⟩=some (.slice (some ⟨g0,0,none⟩) n n)
 l1:w.cell? ⟨lb,1,none⟩=some (.slice (some ⟨g1,0,none⟩) n n)
 b0:Blk w g0 3 (i64s xs)
 b1:Blk w g1 213 (fillA (fun _=>.int .u8 0) (.int .u8 0) n n)
 len:xs.length=n
theorem StM.lt_m {w:World} {ab n lb mb g0 g1:Nat} {xs:List Int} (h:StM w ab n lb mb g0 g1 xs):mb < w.heap.size:=by
 have:=h.m
 exact (Array.getElem?_eq_some_iff.1 this).1
theorem StM.keep {w w':World} {ab n lb mb g0 g1:Nat} {xs:List Int} (h:StM w ab n lb mb g0 g1 xs) (c:Ch (fun _=>False) w w'):StM w' ab n lb mb g0 g1 xs:=
 ⟨c.blk h.a id,(c.block mb h.lt_m id).trans h.m,Nat.lt_of_lt_of_le h.llt c.size,(c.cell h.llt id).trans h.l0,(c.cell h.llt id).trans h.l1,c.blk h.b0 id,c.blk h.b1 id,h.len⟩
theorem wd0_q (n lb g1:Nat) (hn:n≤16384) (w:World) (h1:w.cell? ⟨lb,1,none⟩=some (.slice (some ⟨g1,0,none⟩) n n)) (hb:∀k,k < n→w.cell? ⟨g1,k,none⟩=some (.int .u8 0)) (k:Nat) :
  Calls Tryz.prog 59 #[.pointer (some ⟨lb,0,none⟩)] (w.drewN k) fun e w'=>e=.returned (.slice none 0 0)∧∃m,w'=w.drewN m:=
 (wd0 n lb g1 hn (w.drewN k) (by rw [←h1];rfl) (fun j hj=>by rw [←hb j hj];rfl)).mono fun e w' h=>⟨h.1,k,h.2⟩
theorem stats_ok (ab n lb mb g0 g1:Nat) (xs:List Int) (hn:n≤16384) (w:World) (h:StM w ab n lb mb g0 g1 xs) :
  Calls Tryz.prog 36 #[.pointer (some ⟨ab,0,none⟩)] w fun e w'=>e=.returned (.agg #[.int .i64 n,.int .i64 n,.int .i64 0,.int .i64 0,.int .i64 0,.int .i64 0,.int .i64 0])∧Ch (fun _=>False) w w':=by
 go_enter Tryz.func36,Tryz.ntmps36
 go_wp2_with fail
 refine at_world fun W hW=>?_
 have cW:Ch (fun _=>False) w W:=by rw [hW];exact (Ch.refl _ w).alloc _
 have bR:Blk W w.heap.size 97 #[.int .i64 0,.int .i64 0,.int .i64 0,.int .i64 0,.int .i64 0,.int .i64 0,.int .i64 0]:=by rw [hW];exact Blk.new w _ _
 have HW:=hid cW
 have HB:=hid bR
 have HM:=hid (h.keep cW)
 have hne:ab≠w.heap.size:=Nat.ne_of_lt h.a.lt
 clear hW cW bR h
 obtain ⟨S,hS⟩:∃S:Nat→Prop,∀k,S k↔k=ab:=⟨_,fun _=>Iff.rfl⟩
 have hSp:Mix.Has S ab:=(hS _).2 rfl
 have HS:=hid hS
 clear hS
 have a0:W.cell? ⟨ab,0,none⟩=some (.int .i64 n):=HM.out.a.cell 0
 have a1:W.cell? ⟨ab,1,none⟩=some (.pointer (some ⟨lb,0,none⟩)):=HM.out.a.cell 1
 have a2:W.cell? ⟨ab,2,none⟩=some (.map (some mb)):=HM.out.a.cell 2
 have a3:W.cell? ⟨ab,3,none⟩=some (.int .i64 0):=HM.out.a.cell 3
 have a4:W.cell? ⟨ab,4,none⟩=some (.int .i64 0):=HM.out.a.cell 4
 have a5:W.cell? ⟨ab,5,none⟩=some (.int .i64 0):=HM.out.a.cell 5
 refine Mix.wp_region_mix S (fun i=>([1,1,1,4,0,0,0,4,3,0,1,1,1,4,0,1,1,1,4,0,0,1,1,1,4,1,1,1,4,1,1,1,4,0,2]:List Nat).getD i 0) [0,1,2,3,4,5,6,7,10,11,12,13,15,16,17,18,21,22,23,24,25,26,27,28,29,30,31,32,8,9,14,19,20,33,34] (by kernel_rfl) (by kernel_rfl) ?_
 repeat ((first | refine Mix.q1 rfl ?_ | refine Mix.p1 rfl rfl ?_ | refine Mix.s1 rfl rfl ?_);go_big_quiet_step (fail);refine wpQuiet_nil ?_)
 refine Mix.a1 rfl fun W1 hW1=>?_
 obtain ⟨k1,rfl⟩:=hW1
 go_wp2_with fail
 refine (free_len n lb g0 xs hn HM.out.len (W.drewN k1) HM.out.llt (by rw [←HM.out.l0];rfl) (HM.out.b0.drewN k1)).mono ?_
 rintro e w2 ⟨A,rfl,hc⟩
 have HC:=hid (((Ch.refl (fun _=>False) W).drewN k1).trans hc (fun _ _ h=>h))
 have HM2:=hid (HM.out.keep HC.out)
 clear hc
 go_wp2_with fail
 refine ⟨fun j' hj'=>HC.out.block j' (Nat.lt_of_lt_of_le (by rw [(HS.out j').1 hj'];exact HM.out.a.lt) (Nat.le_refl _)) id,?_⟩
 clear a0 a1 a2 a3 a4 a5
 (refine Mix.q1 rfl ?_;go_big_quiet_step (fail);refine wpQuiet_nil ?_)
 repeat ((first | refine Mix.q1 rfl ?_ | refine Mix.p1 rfl rfl ?_ | refine Mix.s1 rfl rfl ?_);go_big_quiet_step (fail);refine wpQuiet_nil ?_)
 refine Mix.mix_v (by simp only [List.getElem?_toArray,List.getElem?_cons_zero,List.getElem?_cons_succ];exact rfl) rfl (.int .i64 0) rfl (fun W' hW'=>exec_len rfl rfl (run_len_map (w:=W') (P:=Tryz.prog) 162 _ mb #[] 0 (by kernel_rfl) (by obtain ⟨z,rfl⟩:=hW';exact HM2.out.m))) ?_
 simp only [Act.put,List.setIfInBounds_toArray,List.set_cons_succ,List.set_cons_zero]
 repeat (first | (refine Mix.q1 rfl ?_;go_big_quiet_step ((go_at_call 59;exact wd0_q n lb g1 hn _ HM2.out.l1 (fun k hk=>(HM2.out.b1.cell k).trans ((fillA_get _ _ _ _ _ hk).trans (by simp))) _));refine wpQuiet_nil ?_) | (refine Mix.p1 rfl rfl ?_;go_big_quiet_step (fail);refine wpQuiet_nil ?_) | (refine Mix.s1 rfl rfl ?_;go_big_quiet_step (fail);refine wpQuiet_nil ?_))
 have B2:=HC.out.blk HB.out id
 have r0:w2.cell? ⟨w.heap.size,0,none⟩=some (.int .i64 0):=B2.cell 0
 have r1:w2.cell? ⟨w.heap.size,1,none⟩=some (.int .i64 0):=B2.cell 1
 have r2:w2.cell? ⟨w.heap.size,2,none⟩=some (.int .i64 0):=B2.cell 2
 have r3:w2.cell? ⟨w.heap.size,3,none⟩=some (.int .i64 0):=B2.cell 3
 have r4:w2.cell? ⟨w.heap.size,4,none⟩=some (.int .i64 0):=B2.cell 4
 have r5:w2.cell? ⟨w.heap.size,5,none⟩=some (.int .i64 0):=B2.cell 5
 have r6:w2.cell? ⟨w.heap.size,6,none⟩=some (.int .i64 0):=B2.cell 6
 have s0:=B2.free 0
 have s1:=B2.free 1
 have s2:=B2.free 2
 have s3:=B2.free 3
 have s4:=B2.free 4
 have s5:=B2.free 5
 have s6:=B2.free 6
 refine Mix.e1 rfl fun W3 hW3=>?_
 obtain ⟨k3,rfl⟩:=hW3
 go_wp2_with fail
 intro k4
 go_wp2_with fail
 refine at_world fun W7 hW7=>?_
 have B7:Blk W7 w.heap.size 97 #[.int .i64 n,.int .i64 n,.int .i64 0,.int .i64 0,.int .i64 0,.int .i64 0,.int .i64 0]:=by rw [hW7];exact (((((((((B2.drewN k3).put 0 _).put 1 _).put 2 _).put 3 _).put 4 _).put 5 _).put 6 _)).drewN k4
 have c7:Ch (fun k=>k=w.heap.size) w2 W7:=by rw [hW7];exact ((((((((((Ch.refl (fun k=>k=w.heap.size) w2).drewN k3).set (fun _=>rfl) _).set (fun _=>rfl) _).set (fun _=>rfl) _).set (fun _=>rfl) _).set (fun _=>rfl) _).set (fun _=>rfl) _).set (fun _=>rfl) _)).drewN k4
 have t0:W7.cell? ⟨w.heap.size,0,none⟩=some (.int .i64 n):=B7.cell 0
 have t1:W7.cell? ⟨w.heap.size,1,none⟩=some (.int .i64 n):=B7.cell 1
 have t2:W7.cell? ⟨w.heap.size,2,none⟩=some (.int .i64 0):=B7.cell 2
 have t3:W7.cell? ⟨w.heap.size,3,none⟩=some (.int .i64 0):=B7.cell 3
 have t4:W7.cell? ⟨w.heap.size,4,none⟩=some (.int .i64 0):=B7.cell 4
 have t5:W7.cell? ⟨w.heap.size,5,none⟩=some (.int .i64 0):=B7.cell 5
 have t6:W7.cell? ⟨w.heap.size,6,none⟩=some (.int .i64 0):=B7.cell 6
 refine bodyPost_ret (v:=.agg #[.int .i64 n,.int .i64 n,.int .i64 0,.int .i64 0,.int .i64 0,.int .i64 0,.int .i64 0]) ?_ rfl ⟨rfl,(HW.out.trans HC.out (fun _ _ h=>h)).trans c7 (fun i hi e=>absurd hi (by omega))⟩
 clear hW7 c7
 simp [results,Tryz.results36,go_sem,t0,t1,t2,t3,t4,t5,t6]
def ofInts (zs:List Int):ByteArray:=⟨(zs.map fun z=>UInt8.ofNat z.toNat).toArray⟩
theorem bs_ofInts (zs:List Int) (h:∀z ∈ zs,0≤z∧z < 256):bs (ofInts zs)=zs:=by
 unfold bs ofInts
 simp only [List.map_map]
 conv=>rhs;rw [←List.map_id zs]
 apply List.map_congr_left
 intro z hz
 have:=h z hz
 simp only [Function.comp,UInt8.toNat_ofNat',id]
 omega
theorem bs_inj {a b:ByteArray} (h:bs a=bs b):a=b:=by
 apply ByteArray.ext
 apply Array.toList_inj.1
 unfold bs at h
 have hl:a.data.toList.length=b.data.toList.length:=by simpa using congrArg List.length h
 apply List.ext_getElem hl
 intro i h1 h2
 have h3:((a.data.toList.map fun c=>(c.toNat:Int)))[i]'(by simpa using h1)=((b.data.toList.map fun c=>(c.toNat:Int)))[i]'(by simpa using h2):=by simp only [h]
 simp only [List.getElem_map] at h3
 exact UInt8.toNat_inj.1 (by omega)
theorem conv_bytes (w:World) (zs:List Int) (hz:∀z ∈ zs,0≤z∧z < 256) (n cap:Nat) (hn:zs.length=n) (b:Nat) (hc:∀(j:Nat) z,zs[j]?=some z→w.cell? ⟨b,j,none⟩=some (.int .u8 z)) :
  Sem.run Tryz.prog (convert 27 9 (.slice (some ⟨b,0,none⟩) n cap)) w=.ok (.string (ofInts zs)) w:=by
 have h:=run_convert_bytes_back (P:=Tryz.prog) w 27 9 5 ⟨b,0,none⟩ cap (zs.map fun z=>UInt8.ofNat z.toNat) Tryz.underlying27 Tryz.underlying5 Tryz.underlying9 ?_
 ·rw [List.length_map,hn] at h
  exact h
 ·intro j hj
  rw [addr_add0]
  have hj':j < zs.length:=by simpa using hj
  rw [hc j _ (List.getElem?_eq_getElem hj')]
  have:=hz _ (List.getElem_mem hj')
  simp only [List.getElem_map,UInt8.toNat_ofNat']
  congr 2
  omega
def encL (r:Int):List Int:=
 if r < 128 then [r] else if r < 2048 then [192+r / 64,128+r % 64] else if r < 65536 then [224+r / 4096,128+r / 64 % 64,128+r % 64]
 else [240+r / 262144,128+r / 4096 % 64,128+r / 64 % 64,128+r % 64]
def EncP (r:Int) (w:World) (e:Ending) (w':World):Prop:=e=.returned (.tuple #[.string (ofInts (encL r)),.int .i64 0])∧Below w.heap.size w w'
theorem enc1_any (r:Int) (w:World) (hr:runeB r=true) (h1:0≤r) (h2:r < 128):Calls Tryz.prog 89 #[.int .i64 r] w (EncP r w):=by
 have he:encL r=[r]:=by
  unfold encL
  repeat (first | rw [if_pos (by omega)] | rw [if_neg (by omega)])
 unfold EncP
 rw [he]
 have hcv:=conv_bytes (w.alloc (.cells #[.int .u8 (r)] 5)) [r] (by intro z hz;simp at hz;omega) 1 1 rfl w.heap.size (by intro j z hj;rw [(Blk.new w 5 _).cell j];match j,hj with | 0,hj=>simp at hj ⊢;exact hj | j+1,hj=>simp at hj)
 generalize ofInts [r]=S at hcv ⊢
 clear he
 go_enter Tryz.func89,Tryz.ntmps89
 go_wp2_with fail
 refine (rrune_any _ _).mono ?_
 rintro e w0 ⟨rfl,rfl⟩
 rw [hr]
 go_wp2_with fail
 go_ret2
 exact ⟨rfl,(Below.refl _ _).alloc (Nat.le_refl _) _⟩
theorem enc2_any (r:Int) (w:World) (hr:runeB r=true) (h1:128≤r) (h2:r < 2048):Calls Tryz.prog 89 #[.int .i64 r] w (EncP r w):=by
 have he:encL r=[192+r / 64,128+r % 64]:=by
  unfold encL
  repeat (first | rw [if_pos (by omega)] | rw [if_neg (by omega)])
 unfold EncP
 rw [he]
 have hcv:=conv_bytes (w.alloc (.cells #[.int .u8 (192+r / 64),.int .u8 (128+r % 64)] 5)) [192+r / 64,128+r % 64] (by intro z hz;simp at hz;rcases hz with rfl | rfl <;> omega) 2 2 rfl w.heap.size (by intro j z hj;rw [(Blk.new w 5 _).cell j];match j,hj with | 0,hj=>simp at hj ⊢;exact hj | 1,hj=>simp at hj ⊢;exact hj | j+2,hj=>simp at hj)
 generalize ofInts [192+r / 64,128+r % 64]=S at hcv ⊢
 clear he
 go_enter Tryz.func89,Tryz.ntmps89
 go_wp2_with fail
 refine (rrune_any _ _).mono ?_
 rintro e w0 ⟨rfl,rfl⟩
 rw [hr]
 go_wp2_with fail
 go_ret2
 exact ⟨rfl,(Below.refl _ _).alloc (Nat.le_refl _) _⟩
theorem enc3_any (r:Int) (w:World) (hr:runeB r=true) (h1:2048≤r) (h2:r < 65536):Calls Tryz.prog 89 #[.int .i64 r] w (EncP r w):=by
 have he:encL r=[224+r / 4096,128+r / 64 % 64,128+r % 64]:=by
  unfold encL
  repeat (first | rw [if_pos (by omega)] | rw [if_neg (by omega)])
 unfold EncP
 rw [he]
 have hcv:=conv_bytes (w.alloc (.cells #[.int .u8 (224+r / 4096),.int .u8 (128+r / 64 % 64),.int .u8 (128+r % 64)] 5)) [224+r / 4096,128+r / 64 % 64,128+r % 64] (by intro z hz;simp at hz;rcases hz with rfl | rfl | rfl <;> omega) 3 3 rfl w.heap.size (by intro j z hj;rw [(Blk.new w 5 _).cell j];match j,hj with | 0,hj=>simp at hj ⊢;exact hj | 1,hj=>simp at hj ⊢;exact hj | 2,hj=>simp at hj ⊢;exact hj | j+3,hj=>simp at hj)
 generalize ofInts [224+r / 4096,128+r / 64 % 64,128+r % 64]=S at hcv ⊢
 clear he
 go_enter Tryz.func89,Tryz.ntmps89
 go_wp2_with fail
 refine (rrune_any _ _).mono ?_
 rintro e w0 ⟨rfl,rfl⟩
 rw [hr]
 go_wp2_with fail
 go_ret2
 exact ⟨rfl,(Below.refl _ _).alloc (Nat.le_refl _) _⟩
theorem enc4_any (r:Int) (w:World) (hr:runeB r=true) (h1:65536≤r) (h2:r≤1114111):Calls Tryz.prog 89 #[.int .i64 r] w (EncP r w):=by
 have he:encL r=[240+r / 262144,128+r / 4096 % 64,128+r / 64 % 64,128+r % 64]:=by
  unfold encL
  repeat (first | rw [if_pos (by omega)] | rw [if_neg (by omega)])
 unfold EncP
 rw [he]
 have hcv:=conv_bytes (w.alloc (.cells #[.int .u8 (240+r / 262144),.int .u8 (128+r / 4096 % 64),.int .u8 (128+r / 64 % 64),.int .u8 (128+r % 64)] 5)) [240+r / 262144,128+r / 4096 % 64,128+r / 64 % 64,128+r % 64] (by intro z hz;simp at hz;rcases hz with rfl | rfl | rfl | rfl <;> omega) 4 4 rfl w.heap.size (by intro j z hj;rw [(Blk.new w 5 _).cell j];match j,hj with | 0,hj=>simp at hj ⊢;exact hj | 1,hj=>simp at hj ⊢;exact hj | 2,hj=>simp at hj ⊢;exact hj | 3,hj=>simp at hj ⊢;exact hj | j+4,hj=>simp at hj)
 generalize ofInts [240+r / 262144,128+r / 4096 % 64,128+r / 64 % 64,128+r % 64]=S at hcv ⊢
 clear he
 go_enter Tryz.func89,Tryz.ntmps89
 go_wp2_with fail
 refine (rrune_any _ _).mono ?_
 rintro e w0 ⟨rfl,rfl⟩
 rw [hr]
 go_wp2_with fail
 go_ret2
 exact ⟨rfl,(Below.refl _ _).alloc (Nat.le_refl _) _⟩
theorem enc_bad (r:Int) (w:World) (hr:runeB r=false):Calls Tryz.prog 89 #[.int .i64 r] w fun e w'=>e=.returned (.tuple #[.string ⟨#[]⟩,.int .i64 2])∧w=w':=by
 go_enter Tryz.func89,Tryz.ntmps89
 go_wp2_with fail
 refine (rrune_any _ _).mono ?_
 rintro e w0 ⟨rfl,rfl⟩
 rw [hr]
 go_wp2_with fail
 go_ret2
 exact ⟨rfl,rfl⟩
theorem runeB_bd {r:Int} (h:runeB r=true):0≤r∧r≤1114111:=by simp [runeB] at h;omega
theorem enc_any (r:Int) (w:World) (hr:runeB r=true):Calls Tryz.prog 89 #[.int .i64 r] w (EncP r w):=by
 have:=runeB_bd hr
 by_cases h1:r < 128
 ·exact enc1_any r w hr (by omega) h1
 ·by_cases h2:r < 2048
  ·exact enc2_any r w hr (by omega) h2
  ·by_cases h3:r < 65536
   ·exact enc3_any r w hr (by omega) h3
   ·exact enc4_any r w hr (by omega) (by omega)
def racc (l:List Int) (x:Int):Nat→Int
 | 0=>0
 | 1=>x
 | k+2=>64 * racc l x (k+1)+lk l (k+1) - 128
theorem racc_succ (l:List Int) (x:Int) (k:Nat) (h:1≤k):racc l x (k+1)=64 * racc l x k+lk l k - 128:=by
 obtain ⟨k,rfl⟩:∃j,k=j+1:=⟨k - 1,by omega⟩
 rfl
theorem bs_take (s:ByteArray) (n:Nat):bs (s.extract 0 n)=(bs s).take n:=by
 unfold bs
 rw [←List.map_take]
 congr 1
 simp [ByteArray.data_extract]
theorem eqb_of {a b:ByteArray} (h:bs a=bs b):(a.toList == b.toList)=true:=by rw [bs_inj h];simp
theorem eqb_not {a b:ByteArray} (h:bs a≠bs b):(a.toList == b.toList)=false:=by
 cases hx:(a.toList == b.toList) with
 | false=>rfl
 | true=>
  have h1:=eq_of_beq hx
  rw [ByteArray.toList_eq,ByteArray.toList_eq] at h1
  exact absurd (by unfold bs;rw [h1]) h
theorem encL_bd {r:Int} (h:runeB r=true):∀z ∈ encL r,0≤z∧z < 256:=by
 have:=runeB_bd h
 unfold encL
 intro z hz
 split at hz
 ·simp at hz;omega
 ·split at hz
  ·simp at hz;rcases hz with rfl | rfl <;> omega
  ·split at hz
   ·simp at hz;rcases hz with rfl | rfl | rfl <;> omega
   ·simp at hz;rcases hz with rfl | rfl | rfl | rfl <;> omega
def rgood (l:List Int) (n:Nat) (x:Int):Prop:=n≤l.length∧contTo l n∧runeB (racc l x n)=true∧encL (racc l x n)=l.take n
def RDecP (l:List Int) (n:Nat) (x:Int) (w:World) (e:Ending) (w':World):Prop:=
 Below w.heap.size w w'∧(rgood l n x∧e=.returned (.tuple #[.int .i64 (racc l x n),.int .i64 n,.int .i64 0])∨¬rgood l n x∧e=.returned (.tuple #[.int .i64 0,.int .i64 0,.int .i64 11]))
theorem rdecP_bad {l:List Int} {n:Nat} {x:Int} {w w':World} (hb:Below w.heap.size w w') (h:¬rgood l n x):RDecP l n x w (.returned (.tuple #[.int .i64 0,.int .i64 0,.int .i64 11])) w':=⟨hb,.inr ⟨h,rfl⟩⟩
theorem rdec4_any (s:ByteArray) (w:World) (hs:0 < s.size) (hm:s.size≤1000000) (h1:240≤lk (bs s) 0) (h2:lk (bs s) 0 < 256) :
  Calls Tryz.prog 54 #[.string s] w (RDecP (bs s) 4 (lk (bs s) 0 - 240) w):=by
 have he:=size_data hs
 have hb:=bs_bd s 0
 have h0:=bs_get s 0 hs
 have hl0:racc (bs s) (lk (bs s) 0 - 240) 1=(lk (bs s) 0 - 240):=rfl
 go_enter Tryz.func54,Tryz.ntmps54
 go_wp2_with fail
 have H0:=hid h0
 clear h0
 go_loop [5,7] (fun r i=>∃k:Nat,1≤k∧k≤4∧i=.int .i64 k∧r=.int .i64 (racc (bs s) (lk (bs s) 0 - 240) k)∧contTo (bs s) k∧(k=1∨k≤s.size)∧0≤racc (bs s) (lk (bs s) 0 - 240) k∧racc (bs s) (lk (bs s) 0 - 240) k < (256 * 64 ^ (k - 1):Nat)) (fun _ i=>4 - (intOf i).toNat)
 case atStart=>exact ⟨1,by omega,by omega,rfl,by rw [hl0],fun j h1 h2=>by omega,by omega,by rw [hl0];omega,by rw [hl0];simp;omega⟩
 case round=>
  clear hl0 he hb
  obtain ⟨k,hk1,hkn,rfl,rfl,hct,hks,hr0,hr1⟩:=hrel
  have hr2:racc (bs s) (lk (bs s) 0 - 240) k < 67108864:=by
   have:k - 1=0∨k - 1=1∨k - 1=2∨k - 1=3:=by omega
   rcases this with h | h | h | h <;> rw [h] at hr1 <;> simp at hr1 <;> omega
  have Hct:=hid hct
  have Hr1:=hid hr1
  clear hct hr1
  by_cases hlt:k < 4
  ·have hbk:=bs_bd s k
   by_cases hsz:k < s.size
   ·have h3:=bs_get s k hsz
    by_cases hc:cont (lk (bs s) k)=true
    ·have hcb:=cont_bd hc
     have d1:decide (s.size≤k)=false:=by simp;omega
     have d2:decide ((s.size:Int)≤(k:Int))=false:=by simp;omega
     go_wp2_with fail
     refine (rcont_any _ _).mono ?_
     rintro e w0 ⟨rfl,rfl⟩
     rw [hc]
     go_wp2_with fail
     go_round
     case rel=>
      have hac:racc (bs s) (lk (bs s) 0 - 240) (k+1)=64 * racc (bs s) (lk (bs s) 0 - 240) k+lk (bs s) k - 128:=racc_succ _ _ _ hk1
      refine ⟨k+1,by omega,by omega,by go_num,by rw [hac],contTo_succ Hct.out hc,by omega,by rw [hac];omega,?_⟩
      rw [hac]
      have:=Hr1.out
      have e1:256 * 64 ^ (k+1 - 1)=64 * (256 * 64 ^ (k - 1)):=by
       obtain ⟨j,rfl⟩:∃j,k=j+1:=⟨k - 1,by omega⟩
       simp only [Nat.add_sub_cancel]
       rw [Nat.pow_succ]
       omega
      rw [e1]
      have e2:((64 * (256 * 64 ^ (k - 1)):Nat):Int)=64 * ((256 * 64 ^ (k - 1):Nat):Int):=by rw [Int.natCast_mul];rfl
      rw [e2]
      generalize ((256 * 64 ^ (k - 1):Nat):Int)=z at *
      omega
     case measure=>simp [intOf];omega
    ·have hc':cont (lk (bs s) k)=false:=by simpa using hc
     have d1:decide (s.size≤k)=false:=by simp;omega
     have d2:decide ((s.size:Int)≤(k:Int))=false:=by simp;omega
     go_wp2_with fail
     refine (rcont_any _ _).mono ?_
     rintro e w0 ⟨rfl,rfl⟩
     rw [hc']
     go_wp2_with fail
     go_ret3
     exact rdecP_bad (Below.refl _ _) (fun h=>hc (h.2.1 k hk1 hlt))
   ·have d1:decide (s.size≤k)=true:=by simp;omega
    have d2:decide ((s.size:Int)≤(k:Int))=true:=by simp;omega
    go_wp2_with fail
    go_ret3
    exact rdecP_bad (Below.refl _ _) (fun h=>by have:=h.1;rw [bs_length] at this;omega)
  ·obtain rfl:k=4:=by omega
   have hsn:4≤s.size:=by omega
   go_wp2_with fail
   cases hr:runeB (racc (bs s) (lk (bs s) 0 - 240) 4) with
   | false=>
    refine (enc_bad _ _ hr).mono ?_
    rintro e w0 ⟨rfl,rfl⟩
    go_wp2_with fail
    go_ret3
    exact rdecP_bad (Below.refl _ _) (fun h=>by have h3:=h.2.2.1;rw [hr] at h3;cases h3)
   | true=>
    refine (enc_any _ _ hr).mono ?_
    rintro e w1 ⟨rfl,hbel⟩
    have Hr:=hid hr
    by_cases heq:encL (racc (bs s) (lk (bs s) 0 - 240) 4)=(bs s).take 4
    ·have hq:((ofInts (encL (racc (bs s) (lk (bs s) 0 - 240) 4))).toList == (s.extract 0 4).toList)=true:=eqb_of (by rw [bs_ofInts _ (encL_bd hr),bs_take,heq])
     have Hq:=hid heq
     clear heq hr
     go_wp2_with fail
     go_ret3
     exact ⟨hbel,.inl ⟨⟨by rw [bs_length];omega,Hct.out,Hr.out,Hq.out⟩,rfl⟩⟩
    ·have hq:((ofInts (encL (racc (bs s) (lk (bs s) 0 - 240) 4))).toList == (s.extract 0 4).toList)=false:=eqb_not (by rw [bs_ofInts _ (encL_bd hr),bs_take];exact heq)
     clear hr
     go_wp2_with fail
     go_ret3
     exact rdecP_bad hbel (fun h=>heq h.2.2.2)
theorem rdec3_any (s:ByteArray) (w:World) (hs:0 < s.size) (hm:s.size≤1000000) (h1:224≤lk (bs s) 0) (h2:lk (bs s) 0 < 240) :
  Calls Tryz.prog 54 #[.string s] w (RDecP (bs s) 3 (lk (bs s) 0 - 224) w):=by
 have he:=size_data hs
 have hb:=bs_bd s 0
 have h0:=bs_get s 0 hs
 have hl0:racc (bs s) (lk (bs s) 0 - 224) 1=(lk (bs s) 0 - 224):=rfl
 go_enter Tryz.func54,Tryz.ntmps54
 go_wp2_with fail
 have H0:=hid h0
 clear h0
 go_loop [5,7] (fun r i=>∃k:Nat,1≤k∧k≤3∧i=.int .i64 k∧r=.int .i64 (racc (bs s) (lk (bs s) 0 - 224) k)∧contTo (bs s) k∧(k=1∨k≤s.size)∧0≤racc (bs s) (lk (bs s) 0 - 224) k∧racc (bs s) (lk (bs s) 0 - 224) k < (256 * 64 ^ (k - 1):Nat)) (fun _ i=>3 - (intOf i).toNat)
 case atStart=>exact ⟨1,by omega,by omega,rfl,by rw [hl0],fun j h1 h2=>by omega,by omega,by rw [hl0];omega,by rw [hl0];simp;omega⟩
 case round=>
  clear hl0 he hb
  obtain ⟨k,hk1,hkn,rfl,rfl,hct,hks,hr0,hr1⟩:=hrel
  have hr2:racc (bs s) (lk (bs s) 0 - 224) k < 67108864:=by
   have:k - 1=0∨k - 1=1∨k - 1=2∨k - 1=3:=by omega
   rcases this with h | h | h | h <;> rw [h] at hr1 <;> simp at hr1 <;> omega
  have Hct:=hid hct
  have Hr1:=hid hr1
  clear hct hr1
  by_cases hlt:k < 3
  ·have hbk:=bs_bd s k
   by_cases hsz:k < s.size
   ·have h3:=bs_get s k hsz
    by_cases hc:cont (lk (bs s) k)=true
    ·have hcb:=cont_bd hc
     have d1:decide (s.size≤k)=false:=by simp;omega
     have d2:decide ((s.size:Int)≤(k:Int))=false:=by simp;omega
     go_wp2_with fail
     refine (rcont_any _ _).mono ?_
     rintro e w0 ⟨rfl,rfl⟩
     rw [hc]
     go_wp2_with fail
     go_round
     case rel=>
      have hac:racc (bs s) (lk (bs s) 0 - 224) (k+1)=64 * racc (bs s) (lk (bs s) 0 - 224) k+lk (bs s) k - 128:=racc_succ _ _ _ hk1
      refine ⟨k+1,by omega,by omega,by go_num,by rw [hac],contTo_succ Hct.out hc,by omega,by rw [hac];omega,?_⟩
      rw [hac]
      have:=Hr1.out
      have e1:256 * 64 ^ (k+1 - 1)=64 * (256 * 64 ^ (k - 1)):=by
       obtain ⟨j,rfl⟩:∃j,k=j+1:=⟨k - 1,by omega⟩
       simp only [Nat.add_sub_cancel]
       rw [Nat.pow_succ]
       omega
      rw [e1]
      have e2:((64 * (256 * 64 ^ (k - 1)):Nat):Int)=64 * ((256 * 64 ^ (k - 1):Nat):Int):=by rw [Int.natCast_mul];rfl
      rw [e2]
      generalize ((256 * 64 ^ (k - 1):Nat):Int)=z at *
      omega
     case measure=>simp [intOf];omega
    ·have hc':cont (lk (bs s) k)=false:=by simpa using hc
     have d1:decide (s.size≤k)=false:=by simp;omega
     have d2:decide ((s.size:Int)≤(k:Int))=false:=by simp;omega
     go_wp2_with fail
     refine (rcont_any _ _).mono ?_
     rintro e w0 ⟨rfl,rfl⟩
     rw [hc']
     go_wp2_with fail
     go_ret3
     exact rdecP_bad (Below.refl _ _) (fun h=>hc (h.2.1 k hk1 hlt))
   ·have d1:decide (s.size≤k)=true:=by simp;omega
    have d2:decide ((s.size:Int)≤(k:Int))=true:=by simp;omega
    go_wp2_with fail
    go_ret3
    exact rdecP_bad (Below.refl _ _) (fun h=>by have:=h.1;rw [bs_length] at this;omega)
  ·obtain rfl:k=3:=by omega
   have hsn:3≤s.size:=by omega
   go_wp2_with fail
   cases hr:runeB (racc (bs s) (lk (bs s) 0 - 224) 3) with
   | false=>
    refine (enc_bad _ _ hr).mono ?_
    rintro e w0 ⟨rfl,rfl⟩
    go_wp2_with fail
    go_ret3
    exact rdecP_bad (Below.refl _ _) (fun h=>by have h3:=h.2.2.1;rw [hr] at h3;cases h3)
   | true=>
    refine (enc_any _ _ hr).mono ?_
    rintro e w1 ⟨rfl,hbel⟩
    have Hr:=hid hr
    by_cases heq:encL (racc (bs s) (lk (bs s) 0 - 224) 3)=(bs s).take 3
    ·have hq:((ofInts (encL (racc (bs s) (lk (bs s) 0 - 224) 3))).toList == (s.extract 0 3).toList)=true:=eqb_of (by rw [bs_ofInts _ (encL_bd hr),bs_take,heq])
     have Hq:=hid heq
     clear heq hr
     go_wp2_with fail
     go_ret3
     exact ⟨hbel,.inl ⟨⟨by rw [bs_length];omega,Hct.out,Hr.out,Hq.out⟩,rfl⟩⟩
    ·have hq:((ofInts (encL (racc (bs s) (lk (bs s) 0 - 224) 3))).toList == (s.extract 0 3).toList)=false:=eqb_not (by rw [bs_ofInts _ (encL_bd hr),bs_take];exact heq)
     clear hr
     go_wp2_with fail
     go_ret3
     exact rdecP_bad hbel (fun h=>heq h.2.2.2)
theorem rdec2_any (s:ByteArray) (w:World) (hs:0 < s.size) (hm:s.size≤1000000) (h1:192≤lk (bs s) 0) (h2:lk (bs s) 0 < 224) :
  Calls Tryz.prog 54 #[.string s] w (RDecP (bs s) 2 (lk (bs s) 0 - 192) w):=by
 have he:=size_data hs
 have hb:=bs_bd s 0
 have h0:=bs_get s 0 hs
 have hl0:racc (bs s) (lk (bs s) 0 - 192) 1=(lk (bs s) 0 - 192):=rfl
 go_enter Tryz.func54,Tryz.ntmps54
 go_wp2_with fail
 have H0:=hid h0
 clear h0
 go_loop [5,7] (fun r i=>∃k:Nat,1≤k∧k≤2∧i=.int .i64 k∧r=.int .i64 (racc (bs s) (lk (bs s) 0 - 192) k)∧contTo (bs s) k∧(k=1∨k≤s.size)∧0≤racc (bs s) (lk (bs s) 0 - 192) k∧racc (bs s) (lk (bs s) 0 - 192) k < (256 * 64 ^ (k - 1):Nat)) (fun _ i=>2 - (intOf i).toNat)
 case atStart=>exact ⟨1,by omega,by omega,rfl,by rw [hl0],fun j h1 h2=>by omega,by omega,by rw [hl0];omega,by rw [hl0];simp;omega⟩
 case round=>
  clear hl0 he hb
  obtain ⟨k,hk1,hkn,rfl,rfl,hct,hks,hr0,hr1⟩:=hrel
  have hr2:racc (bs s) (lk (bs s) 0 - 192) k < 67108864:=by
   have:k - 1=0∨k - 1=1∨k - 1=2∨k - 1=3:=by omega
   rcases this with h | h | h | h <;> rw [h] at hr1 <;> simp at hr1 <;> omega
  have Hct:=hid hct
  have Hr1:=hid hr1
  clear hct hr1
  by_cases hlt:k < 2
  ·have hbk:=bs_bd s k
   by_cases hsz:k < s.size
   ·have h3:=bs_get s k hsz
    by_cases hc:cont (lk (bs s) k)=true
    ·have hcb:=cont_bd hc
     have d1:decide (s.size≤k)=false:=by simp;omega
     have d2:decide ((s.size:Int)≤(k:Int))=false:=by simp;omega
     go_wp2_with fail
     refine (rcont_any _ _).mono ?_
     rintro e w0 ⟨rfl,rfl⟩
     rw [hc]
     go_wp2_with fail
     go_round
     case rel=>
      have hac:racc (bs s) (lk (bs s) 0 - 192) (k+1)=64 * racc (bs s) (lk (bs s) 0 - 192) k+lk (bs s) k - 128:=racc_succ _ _ _ hk1
      refine ⟨k+1,by omega,by omega,by go_num,by rw [hac],contTo_succ Hct.out hc,by omega,by rw [hac];omega,?_⟩
      rw [hac]
      have:=Hr1.out
      have e1:256 * 64 ^ (k+1 - 1)=64 * (256 * 64 ^ (k - 1)):=by
       obtain ⟨j,rfl⟩:∃j,k=j+1:=⟨k - 1,by omega⟩
       simp only [Nat.add_sub_cancel]
       rw [Nat.pow_succ]
       omega
      rw [e1]
      have e2:((64 * (256 * 64 ^ (k - 1)):Nat):Int)=64 * ((256 * 64 ^ (k - 1):Nat):Int):=by rw [Int.natCast_mul];rfl
      rw [e2]
      generalize ((256 * 64 ^ (k - 1):Nat):Int)=z at *
      omega
     case measure=>simp [intOf];omega
    ·have hc':cont (lk (bs s) k)=false:=by simpa using hc
     have d1:decide (s.size≤k)=false:=by simp;omega
     have d2:decide ((s.size:Int)≤(k:Int))=false:=by simp;omega
     go_wp2_with fail
     refine (rcont_any _ _).mono ?_
     rintro e w0 ⟨rfl,rfl⟩
     rw [hc']
     go_wp2_with fail
     go_ret3
     exact rdecP_bad (Below.refl _ _) (fun h=>hc (h.2.1 k hk1 hlt))
   ·have d1:decide (s.size≤k)=true:=by simp;omega
    have d2:decide ((s.size:Int)≤(k:Int))=true:=by simp;omega
    go_wp2_with fail
    go_ret3
    exact rdecP_bad (Below.refl _ _) (fun h=>by have:=h.1;rw [bs_length] at this;omega)
  ·obtain rfl:k=2:=by omega
   have hsn:2≤s.size:=by omega
   go_wp2_with fail
   cases hr:runeB (racc (bs s) (lk (bs s) 0 - 192) 2) with
   | false=>
    refine (enc_bad _ _ hr).mono ?_
    rintro e w0 ⟨rfl,rfl⟩
    go_wp2_with fail
    go_ret3
    exact rdecP_bad (Below.refl _ _) (fun h=>by have h3:=h.2.2.1;rw [hr] at h3;cases h3)
   | true=>
    refine (enc_any _ _ hr).mono ?_
    rintro e w1 ⟨rfl,hbel⟩
    have Hr:=hid hr
    by_cases heq:encL (racc (bs s) (lk (bs s) 0 - 192) 2)=(bs s).take 2
    ·have hq:((ofInts (encL (racc (bs s) (lk (bs s) 0 - 192) 2))).toList == (s.extract 0 2).toList)=true:=eqb_of (by rw [bs_ofInts _ (encL_bd hr),bs_take,heq])
     have Hq:=hid heq
     clear heq hr
     go_wp2_with fail
     go_ret3
     exact ⟨hbel,.inl ⟨⟨by rw [bs_length];omega,Hct.out,Hr.out,Hq.out⟩,rfl⟩⟩
    ·have hq:((ofInts (encL (racc (bs s) (lk (bs s) 0 - 192) 2))).toList == (s.extract 0 2).toList)=false:=eqb_not (by rw [bs_ofInts _ (encL_bd hr),bs_take];exact heq)
     clear hr
     go_wp2_with fail
     go_ret3
     exact rdecP_bad hbel (fun h=>heq h.2.2.2)
theorem rdec1_any (s:ByteArray) (w:World) (hs:0 < s.size) (hm:s.size≤1000000) (h1:0≤lk (bs s) 0) (h2:lk (bs s) 0 < 192) :
  Calls Tryz.prog 54 #[.string s] w (RDecP (bs s) 1 (lk (bs s) 0) w):=by
 have he:=size_data hs
 have hb:=bs_bd s 0
 have h0:=bs_get s 0 hs
 have hl0:racc (bs s) (lk (bs s) 0) 1=(lk (bs s) 0):=rfl
 go_enter Tryz.func54,Tryz.ntmps54
 go_wp2_with fail
 have H0:=hid h0
 clear h0
 go_loop [5,7] (fun r i=>∃k:Nat,1≤k∧k≤1∧i=.int .i64 k∧r=.int .i64 (racc (bs s) (lk (bs s) 0) k)∧contTo (bs s) k∧(k=1∨k≤s.size)∧0≤racc (bs s) (lk (bs s) 0) k∧racc (bs s) (lk (bs s) 0) k < (256 * 64 ^ (k - 1):Nat)) (fun _ i=>1 - (intOf i).toNat)
 case atStart=>exact ⟨1,by omega,by omega,rfl,by rw [hl0],fun j h1 h2=>by omega,by omega,by rw [hl0];omega,by rw [hl0];simp;omega⟩
 case round=>
  clear hl0 he hb
  obtain ⟨k,hk1,hkn,rfl,rfl,hct,hks,hr0,hr1⟩:=hrel
  have hr2:racc (bs s) (lk (bs s) 0) k < 67108864:=by
   have:k - 1=0∨k - 1=1∨k - 1=2∨k - 1=3:=by omega
   rcases this with h | h | h | h <;> rw [h] at hr1 <;> simp at hr1 <;> omega
  have Hct:=hid hct
  have Hr1:=hid hr1
  clear hct hr1
  by_cases hlt:k < 1
  ·exact absurd hlt (by omega)
  ·obtain rfl:k=1:=by omega
   have hsn:1≤s.size:=by omega
   go_wp2_with fail
   cases hr:runeB (racc (bs s) (lk (bs s) 0) 1) with
   | false=>
    refine (enc_bad _ _ hr).mono ?_
    rintro e w0 ⟨rfl,rfl⟩
    go_wp2_with fail
    go_ret3
    exact rdecP_bad (Below.refl _ _) (fun h=>by have h3:=h.2.2.1;rw [hr] at h3;cases h3)
   | true=>
    refine (enc_any _ _ hr).mono ?_
    rintro e w1 ⟨rfl,hbel⟩
    have Hr:=hid hr
    by_cases heq:encL (racc (bs s) (lk (bs s) 0) 1)=(bs s).take 1
    ·have hq:((ofInts (encL (racc (bs s) (lk (bs s) 0) 1))).toList == (s.extract 0 1).toList)=true:=eqb_of (by rw [bs_ofInts _ (encL_bd hr),bs_take,heq])
     have Hq:=hid heq
     clear heq hr
     go_wp2_with fail
     go_ret3
     exact ⟨hbel,.inl ⟨⟨by rw [bs_length];omega,Hct.out,Hr.out,Hq.out⟩,rfl⟩⟩
    ·have hq:((ofInts (encL (racc (bs s) (lk (bs s) 0) 1))).toList == (s.extract 0 1).toList)=false:=eqb_not (by rw [bs_ofInts _ (encL_bd hr),bs_take];exact heq)
     clear hr
     go_wp2_with fail
     go_ret3
     exact rdecP_bad hbel (fun h=>heq h.2.2.2)
def MapAt (w:World) (B:Nat) (es:List (Int × Value)):Prop:=∃bs:List Nat,bs.length=es.length∧w.heap[B]?=some (.map ((es.zip bs).map fun x=>({ key:=.int .u64 x.1.1,val:=x.1.2,born:=x.2 }:MapEntry)).toArray es.length)
theorem MapAt.ch {fp:Nat→Prop} {w w':World} {B:Nat} {es:List (Int × Value)} (h:MapAt w B es) (c:Ch fp w w') (hn:¬fp B):MapAt w' B es:=by
 obtain ⟨bs,hl,hb⟩:=h
 exact ⟨bs,hl,(c.block B (Array.getElem?_eq_some_iff.1 hb).1 hn).trans hb⟩
def u64At (es:List (Int × Value)) (k:Int):Option Value:=(es.find? fun x=>k == x.1).map Prod.snd
theorem findNow_u64 (k:Int):∀(es:List (Int × Value)) (bs:List Nat) (i:Nat),bs.length=es.length→
  ∃r,Instr.findNow (.int .u64) (.int .u64 k) ((es.zip bs).map fun x=>({ key:=.int .u64 x.1.1,val:=x.1.2,born:=x.2 }:MapEntry)) i=some r∧r.map Prod.snd=u64At es k:=by
 intro es
 induction es with
 | nil=>intro bs i h;exact ⟨none,by simp [Instr.findNow],rfl⟩
 | cons e es ih=>
  intro bs i h
  match bs,h with
  | b::bs,h=>
   simp at h
   by_cases hk:k=e.1
   ·exact ⟨some (i,e.2),by simp [Instr.findNow,Instr.sameNow,hk],by simp [u64At,hk]⟩
   ·obtain ⟨r,h1,h2⟩:=ih bs (i+1) h
    have hk':(k == e.1)=false:=by rw [beq_eq_false_iff_ne];exact hk
    refine ⟨r,?_,?_⟩
    ·simp [Instr.findNow,Instr.sameNow,hk']
     exact h1
    ·rw [h2];simp [u64At,List.find?_cons,hk']
section
variable {P:Program} {w:World} {ops:Array Oper} {rest:List Oper} {o:Oper} {a:Act} {Q:Exit→Act→World→Prop}
theorem run_insert_u64 {T kt et:TypeId} (hT:P.underlying T=some (.map kt et)) (hkt:P.underlying kt=some (.int .u64)) {B:Nat} {es:List (Int × Value)} (h:MapAt w B es) (key:Int) (val:Value) (hn:u64At es key=none) :
  ∃w',(Instr.mapUpdate T (.map (some B)) (.int .u64 key) val).run P w=.ok () w'∧MapAt w' B (es++[(key,val)])∧Ch (fun b=>b=B) w w':=by
 obtain ⟨bs,hl,hb⟩:=h
 obtain ⟨r,h1,h2⟩:=findNow_u64 key es bs 0 hl
 have hr:r=none:=by
  cases r with
  | none=>rfl
  | some x=>rw [hn] at h2;simp at h2
 subst hr
 have hc:(Instr.checkKey false 10000 kt (.int .u64 key)).run P w=.ok () w:=MapKept.run_checkKey (k:=.int .u64 key) hkt (by simp [MapKept.IsKey]) false 9999
 refine ⟨{ w with heap:=w.heap.setIfInBounds B (.map (((es.zip bs).map fun x=>({ key:=.int .u64 x.1.1,val:=x.1.2,born:=x.2 }:MapEntry)).toArray.push { key:=.int .u64 key,val,born:=es.length }) (es.length+1)) },?_,?_,?_⟩
 ·simp only [Instr.mapUpdate,Sem.run_bind,run_underlying hT,Result.andThen_ok,MapKept.run_getObj_map hb,hc]
  rw [MapKept.run_findKey hkt h1]
  simp only [Result.andThen_ok]
  exact MapKept.run_setObj_map _ hb
 ·refine ⟨bs++[es.length],by simp [hl],?_⟩
  have:=(MapKept.heap_set (o':=.map (((es.zip bs).map fun x=>({ key:=.int .u64 x.1.1,val:=x.1.2,born:=x.2 }:MapEntry)).toArray.push { key:=.int .u64 key,val,born:=es.length }) (es.length+1)) hb).1
  rw [this]
  simp [List.zip_append hl.symm]
 ·refine ⟨rfl,rfl,rfl,by simp,fun k _ hk=>(MapKept.heap_set hb).2 k hk⟩
end
end Go.Proofs.YtjcdknhejcbpiaaGreat
