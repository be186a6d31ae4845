/- Lemmas; no condition. -/
import Derived.Test.YtjcdknhejcbpiaaGreatSb02
set_option maxRecDepth 100000
set_option maxHeartbeats 1000000
namespace Go.Proofs.YtjcdknhejcbpiaaGreat
open Go.RowKit
set_option linter.unusedVariables false
set_option linter.unusedSimpArgs false
set_option linter.unusedSectionVars false
structure Rv where
 num:Int
 at':Int
 h:Int
 b:Int
 r:Int
 l:Int
def rvCells (x:Rv) (mv dv:Value):List Value:=[.int .i64 x.num,.int .u64 x.at',.int .i64 x.h,.int .i64 x.b,.int .i64 x.r,.int .i64 x.l,mv,dv]
def rvA (x:Rv) (mv dv:Value):Array Value:=#[.int .i64 x.num,.int .u64 x.at',.int .i64 x.h,.int .i64 x.b,.int .i64 x.r,.int .i64 x.l,mv,dv]
theorem at_world {E:Act->World->Prop} {a:Act} {w:World} (h:∀W,W=w->E a W):E a w:=h w rfl
theorem copied_any (x:Rv) (am ad:Option Addr) (n1 c1 n2 c2:Nat) (ms:List Mk) (ds:List Pc) (w:World) (hm:InMk w am n1 ms) (hd:InPc w ad n2 ds) (zm:am=none->c1=0) (zd:ad=none->c2=0) (h1:n1 < 1000) (h2:n2 < 1000) :
  Calls Tryz.prog 60 #[.agg #[.int .i64 x.num,.int .u64 x.at',.int .i64 x.h,.int .i64 x.b,.int .i64 x.r,.int .i64 x.l,.slice am n1 c1,.slice ad n2 c2]] w fun e w'=>∃mv dv,e=.returned (.agg (rvA x mv dv))/\w'.ownsRow w.heap.size 160 3 mv n1 (mkCells ms)/\w'.ownsRow w.heap.size 217 3 dv n2 (pcCells ds)/\Ch (fun _=>False) w w':=by
 have hm1:=hm.1
 have hd1:=hd.1
 go_enter Tryz.func60,Tryz.ntmps60
 go_wp2_with fail
 obtain ⟨S,hS⟩:∃S:Nat->Prop,∀k,S k↔k=w.heap.size:=⟨_,fun _=>Iff.rfl⟩
 have hSp:Mix.Has S w.heap.size:=(hS _).2 rfl
 have HS:=hid hS
 clear hS
 refine Mix.rg S [0,0,3,1,4,2,1,2,0,2] [0,1,3,4,2,6,5,7,8,9] ?_
 refine Mix.mix_world fun W0 hW0=>?_
 have cW:Ch (fun _=>False) w W0:=by rw [hW0];exact ((Ch.refl _ w).alloc _).alloc _
 have bB:Blk W0 w.heap.size 104 #[.int .i64 x.num,.int .u64 x.at',.int .i64 x.h,.int .i64 x.b,.int .i64 x.r,.int .i64 x.l,.slice am n1 c1,.slice ad n2 c2]:=by rw [hW0];exact (Blk.new w _ _).alloc _
 have bR:Blk W0 (w.heap.size+1) 104 #[.int .i64 0,.int .u64 0,.int .i64 0,.int .i64 0,.int .i64 0,.int .i64 0,.slice none 0 0,.slice none 0 0]:=by
  rw [hW0]
  have:=Blk.new (w.alloc (.cells #[.int .i64 x.num,.int .u64 x.at',.int .i64 x.h,.int .i64 x.b,.int .i64 x.r,.int .i64 x.l,.slice am n1 c1,.slice ad n2 c2] 104)) 104 #[.int .i64 0,.int .u64 0,.int .i64 0,.int .i64 0,.int .i64 0,.int .i64 0,.slice none 0 0,.slice none 0 0]
  simpa using this
 obtain ⟨-,-,-,-,-,-,c6,c7⟩:=bB.c8
 have HM:=hid (hm.keep cW (fun _ _ _ _=>id))
 have HD:=hid (hd.keep cW (fun _ _ _ _=>id))
 have HB:=hid bB
 have HR:=hid bR
 have HC:=hid cW
 clear hW0 bB bR cW hm hd
 repeat ((first | refine Mix.zq ?_ | refine Mix.zp ?_ | refine Mix.zs ?_);go_big_quiet_step (fail);refine wpQuiet_nil ?_)
 refine Mix.za fun W1 hW1=>?_
 obtain ⟨k1,rfl⟩:=hW1
 go_wp2_with fail
 refine (cloneMarks_any am n1 c1 ms (W0.drewN k1) (HM.out.keep ((Ch.refl (fun _=>False) W0).drewN k1) (fun _ _ _ _=>id)) (by omega) zm).mono ?_
 rintro e w2 ⟨mv,rfl,hown,hc⟩
 rw [hm1] at hown
 obtain ⟨ma,mc,hmv,hmc⟩:=own_slice hown
 subst hmv
 have c2:Ch (fun _=>False) W0 w2:=hc.ofDrewN
 have hkeep:Mix.Keep S W0 w2:=fun k hk=>by rw [(HS.out k).1 hk];exact c2.block _ HB.out.lt id
 have HO1:=hid (own_mono hown (show w.heap.size<=(W0.drewN k1).heap.size from HC.out.size))
 have HB2:=hid (c2.blk HB.out id)
 have HR2:=hid (c2.blk HR.out id)
 have HD2:=hid (HD.out.keep c2 (fun _ _ _ _=>id))
 have HC2:=hid (HC.out.trans c2 (fun _ _ h=>h))
 clear hown hc c2 c6 c7
 go_wp2_with fail
 refine ⟨hkeep,?_⟩
 clear hkeep
 repeat ((first | refine Mix.zq ?_ | refine Mix.zp ?_ | refine Mix.zs ?_);go_big_quiet_step (fail);refine wpQuiet_nil ?_)
 refine Mix.ze fun W3 hW3=>?_
 obtain ⟨k2,rfl⟩:=hW3
 go_wp2_with fail
 refine (clonePieces_any ad n2 c2 ds (w2.drewN k2) (HD2.out.keep ((Ch.refl (fun _=>False) w2).drewN k2) (fun _ _ _ _=>id)) (by omega) zd).mono ?_
 rintro e w4 ⟨dv,rfl,hown,hc⟩
 rw [hd1] at hown
 obtain ⟨da,dc,hdv,hdc⟩:=own_slice hown
 subst hdv
 have c4:Ch (fun _=>False) w2 w4:=hc.ofDrewN
 have HO2:=hid (own_mono hown (show w.heap.size<=(w2.drewN k2).heap.size from HC2.out.size))
 have HO1b:=hid (c4.own HO1.out (fun _ _=>id))
 have HB4:=hid (c4.blk HB2.out id)
 have HR4:=hid (c4.blk HR2.out id)
 have HC4:=hid (HC2.out.trans c4 (fun _ _ h=>h))
 have f6:=HB4.out.free 6
 have f7:=HB4.out.free 7
 obtain ⟨-,-,-,-,-,-,c6,c7⟩:=HB4.out.c8
 clear hown hc c4
 go_wp2_with fail
 repeat ((first | refine Mix.zq ?_ | refine Mix.zp ?_ | refine Mix.zs ?_);go_big_quiet_step (fail);refine wpQuiet_nil ?_)
 refine Mix.ze fun W5 hW5=>?_
 obtain ⟨k3,rfl⟩:=hW5
 go_wp2_with fail
 repeat ((first | refine Mix.zq ?_ | refine Mix.zp ?_ | refine Mix.zs ?_);go_big_quiet_step (fail);refine wpQuiet_nil ?_)
 refine Mix.ze fun W6 hW6=>?_
 obtain ⟨k4,rfl⟩:=hW6
 go_wp2_with fail
 intro k5
 refine at_world fun W6 hW6=>?_
 have hne1:w.heap.size+1≠w.heap.size:=by omega
 have B6:Blk W6 w.heap.size 104 #[.int .i64 x.num,.int .u64 x.at',.int .i64 x.h,.int .i64 x.b,.int .i64 x.r,.int .i64 x.l,.slice ma n1 mc,.slice da n2 dc]:=by
  rw [hW6];exact ((((HB4.out.drewN k3).put 6 (.slice ma n1 mc)).drewN k4).put 7 (.slice da n2 dc)).drewN k5
 have R6:Blk W6 (w.heap.size+1) 104 #[.int .i64 0,.int .u64 0,.int .i64 0,.int .i64 0,.int .i64 0,.int .i64 0,.slice none 0 0,.slice none 0 0]:=by
  rw [hW6];exact ((((HR4.out.drewN k3).far (p:=⟨w.heap.size,6,none⟩) hne1 _).drewN k4).far (p:=⟨w.heap.size,7,none⟩) hne1 _).drewN k5
 have c6:Ch (fun k=>k=w.heap.size) w4 W6:=by
  rw [hW6];exact ((((Ch.refl (fun k=>k=w.heap.size) w4).drewN k3).set (fun _=>rfl) _).drewN k4 |>.set (fun _=>rfl) _).drewN k5
 have o1:=HB4.out.own HO1b.out (by decide)
 have o2:=HB4.out.own HO2.out (by decide)
 have HO6:=hid (c6.own HO1b.out (fun k hk e=>o1 (by rw [hk,e])))
 have HP6:=hid (c6.own HO2.out (fun k hk e=>o2 (by rw [hk,e])))
 have HC6:=hid (HC4.out.trans c6 (fun i hi e=>absurd hi (by omega)))
 obtain ⟨b0,b1,b2,b3,b4,b5,b6,b7⟩:=B6.c8
 obtain ⟨r0,r1,r2,r3,r4,r5,r6,r7⟩:=R6.c8
 obtain ⟨s0,s1,s2,s3,s4,s5,s6,s7⟩:=R6.f8
 clear hW6 c6 o1 o2 f6 f7 c7
 go_wp2_with fail
 refine at_world fun W7 hW7=>?_
 have R7:Blk W7 (w.heap.size+1) 104 #[.int .i64 x.num,.int .u64 x.at',.int .i64 x.h,.int .i64 x.b,.int .i64 x.r,.int .i64 x.l,.slice ma n1 mc,.slice da n2 dc]:=by
  rw [hW7];exact (((((((R6.put 0 _).put 1 _).put 2 _).put 3 _).put 4 _).put 5 _).put 6 _).put 7 _
 have c7:Ch (fun k=>k=w.heap.size+1) W6 W7:=by
  rw [hW7];exact ((((((((Ch.refl (fun k=>k=w.heap.size+1) W6).set (fun _=>rfl) _).set (fun _=>rfl) _).set (fun _=>rfl) _).set (fun _=>rfl) _).set (fun _=>rfl) _).set (fun _=>rfl) _).set (fun _=>rfl) _).set (fun _=>rfl) _
 have o1:=R6.own HO6.out (by decide)
 have o2:=R6.own HP6.out (by decide)
 obtain ⟨t0,t1,t2,t3,t4,t5,t6,t7⟩:=R7.c8
 refine bodyPost_ret (v:=.agg (rvA x (.slice ma n1 mc) (.slice da n2 dc))) ?_ rfl ⟨_,_,rfl,c7.own HO6.out (fun k hk e=>o1 (by rw [hk,e])),c7.own HP6.out (fun k hk e=>o2 (by rw [hk,e])),HC6.out.trans c7 (fun i hi e=>absurd hi (by omega))⟩
 clear hW7 c7 o1 o2
 simp [results,Tryz.results60,go_sem,rvA,t0,t1,t2,t3,t4,t5,t6,t7]
theorem sizes0 (w:World):Calls Tryz.prog 142 #[.int .i64 0,.int .i64 16] w fun e w'=>e=.returned (.slice none 0 0)/\Ch (fun _=>False) w w':=by
 go_enter Tryz.func142,Tryz.ntmps142
 go_wp2_with fail
 go_ret
 exact ⟨rfl,by (repeat (first | exact Ch.refl _ _ | refine Ch.setCell ?_ (fun h=>absurd h (by simp)) _ | refine Ch.alloc ?_ _ | refine Ch.drewN ?_ _))⟩
theorem chunks0 (w:World):Calls Tryz.prog 116 #[(.string ⟨#[]⟩)] w fun e w'=>e=.returned (.slice none 0 0)/\Ch (fun _=>False) w w':=by
 go_enter Tryz.func116,Tryz.ntmps116
 go_wp2_with fail
 refine (sizes0 _).mono ?_
 rintro e w1 ⟨rfl,hc⟩
 go_wp2_with fail
 go_loopw [0,3,10] (fun s v i wr=>s=(.string ⟨#[]⟩)/\v=(.slice none 0 0)/\i=.int .i64 0/\wr=w1) (fun _ _ _ _=>0)
 case atStart=>exact ⟨rfl,rfl,rfl,rfl⟩
 case round=>
  obtain ⟨rfl,rfl,rfl,rfl⟩:=hrel
  go_wp2_with fail
  go_ret
  exact ⟨rfl,hc⟩
theorem group0 (w:World):Calls Tryz.prog 118 #[(.slice none 0 0)] w fun e w'=>e=.returned ((.agg #[.int .u64 0,.int .i64 0,.int .i64 0,.int .i64 0,.int .i64 0,.string ⟨#[]⟩,.slice none 0 0]))/\Ch (fun _=>False) w w':=by
 go_enter Tryz.func118,Tryz.ntmps118
 go_wp2_with fail
 refine bodyPost_ret (v:=(.agg #[.int .u64 0,.int .i64 0,.int .i64 0,.int .i64 0,.int .i64 0,.string ⟨#[]⟩,.slice none 0 0])) ?_ rfl ⟨rfl,?_⟩
 ·simp [results,Tryz.results118,go_sem]
 ·(repeat (first | exact Ch.refl _ _ | refine Ch.setCell ?_ (fun h=>absurd h (by simp)) _ | refine Ch.alloc ?_ _ | refine Ch.drewN ?_ _))
theorem build0 (w:World):Calls Tryz.prog 80 #[(.string ⟨#[]⟩)] w fun e w'=>e=.returned (.tuple #[(.agg #[.int .u64 0,.int .i64 0,.int .i64 0,.int .i64 0,.int .i64 0,.string ⟨#[]⟩,.slice none 0 0]),.int .i64 0])/\Ch (fun _=>False) w w':=by
 go_enter Tryz.func80,Tryz.ntmps80
 go_wp2_with fail
 refine calls_world fun W1 hW1=>?_
 have cW:Ch (fun _=>False) w W1:=by rw [hW1];exact (Ch.refl _ w).alloc _
 have bT:Blk W1 w.heap.size 183 #[.int .u64 0,.int .i64 0,.int .i64 0,.int .i64 0,.int .i64 0,.string ⟨#[]⟩,.slice none 0 0]:=by rw [hW1];exact Blk.new w _ _
 have HC:=hid cW
 have HB:=hid bT
 have hlt:=bT.lt
 clear hW1 cW bT
 refine (chunks0 W1).mono ?_
 rintro e w2 ⟨rfl,hc⟩
 have B2:=hc.blk HB.out id
 have HC2:=hid (HC.out.trans hc (fun _ _ h=>h))
 obtain ⟨r0,r1,r2,r3,r4,r5,r6⟩:=B2.c7
 obtain ⟨s0,s1,s2,s3,s4,s5,s6⟩:=B2.f7
 clear hc
 go_wp2_with fail
 go_loopw [4,19] (fun r i W=>r=(.slice none 0 0)/\i=.int .i64 0/\W=w2) (fun _ _ _=>0)
 case atStart=>exact ⟨rfl,rfl,rfl⟩
 case round=>
  obtain ⟨rfl,rfl,rfl⟩:=hrel
  go_wp2_with fail
  go_loopw [4] (fun r W=>r=(.slice none 0 0)/\W=wr) (fun _ _=>0)
  case atStart=>exact ⟨rfl,rfl⟩
  case round=>
   (
 obtain ⟨rfl,rfl⟩:=hrel
 go_wp2_with fail
 clear r0 s0 r1 s1 r2 s2 r3 s3 r4 s4 r5 s5 r6 s6
 refine (group0 _).mono ?_
 rintro e w3 ⟨rfl,hc⟩
 have B3:=hc.blk B2 id
 have HC3:=hid (HC2.out.trans hc (fun _ _ h=>h))
 obtain ⟨r0,r1,r2,r3,r4,r5,r6⟩:=B3.c7
 obtain ⟨s0,s1,s2,s3,s4,s5,s6⟩:=B3.f7
 clear hc
 go_wp2_with fail
 refine at_world fun W7 hW7=>?_
 have B7:Blk W7 w.heap.size 183 #[.int .u64 0,.int .i64 0,.int .i64 0,.int .i64 0,.int .i64 0,.string ⟨#[]⟩,.slice none 0 0]:=by rw [hW7];exact (((((((B3.put 0 _).put 1 _).put 2 _).put 3 _).put 4 _).put 5 _).put 6 _)
 have c7:Ch (fun k=>k=w.heap.size) w3 W7:=by rw [hW7];exact ((((((((Ch.refl (fun k=>k=w.heap.size) w3).set (fun _=>rfl) _).set (fun _=>rfl) _).set (fun _=>rfl) _).set (fun _=>rfl) _).set (fun _=>rfl) _).set (fun _=>rfl) _).set (fun _=>rfl) _)
 obtain ⟨t0,t1,t2,t3,t4,t5,t6⟩:=B7.c7
 refine bodyPost_ret (v:=.tuple #[(.agg #[.int .u64 0,.int .i64 0,.int .i64 0,.int .i64 0,.int .i64 0,.string ⟨#[]⟩,.slice none 0 0]),.int .i64 0]) ?_ rfl ⟨rfl,HC3.out.trans c7 (fun i hi e=>absurd hi (by omega))⟩
 clear hW7 c7
 simp [results,Tryz.results80,go_sem,t0,t1,t2,t3,t4,t5,t6]
 )
theorem kind0 (w:World):Calls Tryz.prog 156 #[(.agg #[.int .u64 0,.int .i64 0,.int .i64 0,.int .i64 0,.int .i64 0,.string ⟨#[]⟩,.slice none 0 0])] w fun e w'=>e=.returned (.int .i64 1)/\Ch (fun _=>False) w w':=by
 go_enter Tryz.func156,Tryz.ntmps156
 go_wp2_with fail
 go_ret
 exact ⟨rfl,by (repeat (first | exact Ch.refl _ _ | refine Ch.setCell ?_ (fun h=>absurd h (by simp)) _ | refine Ch.alloc ?_ _ | refine Ch.drewN ?_ _))⟩
theorem planCheck0 (p:Nat) (w:World):Calls Tryz.prog 143 #[.pointer (some ⟨p,0,none⟩),(.agg #[.int .u64 0,.int .i64 0,.int .i64 0,.int .i64 0,.int .i64 0,.string ⟨#[]⟩,.slice none 0 0])] w fun e w'=>e=.returned (.int .i64 0)/\Ch (fun _=>False) w w':=by
 go_enter Tryz.func143,Tryz.ntmps143
 go_wp2_with fail
 refine (kind0 _).mono ?_
 rintro e w1 ⟨rfl,hc⟩
 have HC:=hid (((Ch.refl (fun _=>False) w).alloc _).trans hc (fun _ _ h=>h))
 clear hc
 go_wp2_with fail
 go_ret
 exact ⟨rfl,HC.out⟩
theorem planNew0 (w:World):Calls Tryz.prog 144 #[(.agg #[.int .u64 0,.int .i64 0,.int .i64 0,.int .i64 0,.int .i64 0,.string ⟨#[]⟩,.slice none 0 0])] w fun e w'=>e=.returned (.int .i64 0)/\Ch (fun _=>False) w w':=by
 go_enter Tryz.func144,Tryz.ntmps144
 go_wp2_with fail
 refine calls_world fun W1 hW1=>?_
 have cW:Ch (fun _=>False) w W1:=by rw [hW1];exact (Ch.refl _ w).alloc _
 have bT:Blk W1 w.heap.size 183 #[.int .u64 0,.int .i64 0,.int .i64 0,.int .i64 0,.int .i64 0,.string ⟨#[]⟩,.slice none 0 0]:=by rw [hW1];exact Blk.new w _ _
 have HC:=hid cW
 have HB:=hid bT
 have hlt:=bT.lt
 clear hW1 cW bT
 refine (kind0 W1).mono ?_
 rintro e w2 ⟨rfl,hc⟩
 have B2:=hc.blk HB.out id
 have HC2:=hid (HC.out.trans hc (fun _ _ h=>h))
 obtain ⟨r0,r1,r2,r3,r4,r5,r6⟩:=B2.c7
 obtain ⟨s0,s1,s2,s3,s4,s5,s6⟩:=B2.f7
 clear hc
 go_wp2_with fail
 go_loopw [3,18] (fun n i W=>n=.int .i64 0/\i=.int .i64 0/\W=w2) (fun _ _ _=>0)
 case atStart=>exact ⟨rfl,rfl,rfl⟩
 case round=>
  obtain ⟨rfl,rfl,rfl⟩:=hrel
  go_wp2_with fail
  go_ret
  exact ⟨rfl,HC2.out⟩
end Go.Proofs.YtjcdknhejcbpiaaGreat
