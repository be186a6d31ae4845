/- Lemmas; no condition. -/
import Derived.Laws.StructEq
import Derived.Test.YtjcdknhejcbpiaaGreatSb22
set_option maxRecDepth 100000
set_option maxHeartbeats 4000000
namespace Go.Proofs.YtjcdknhejcbpiaaGreat
open Go.RowKit
set_option linter.unusedVariables false
set_option linter.unusedSimpArgs false
set_option linter.unusedSectionVars false
theorem formed_5 (g:Nat) (w:World):Calls Tryz.prog 93 #[.pointer (some ⟨g,0,none⟩),.agg #[.int .u8 5,.int .i64 0,.int .i64 0,.int .i64 0,.int .u32 0,.int .u8 0,.string ⟨#[]⟩]] w fun e w'=>e=.returned (.bool true)/\Ch (fun _=>False) w w':=by
 go_enter Tryz.func93,Tryz.ntmps93
 go_wp2_with fail
 go_ret
 exact ⟨rfl,((Ch.refl _ w).alloc _).alloc _⟩
theorem formed_7 (g lb n:Nat) (r:Rd) (sl pos num:Int) (w:World) (h:Blk w g 111 r.cells) (hs:r.sl=.slice (some ⟨lb,0,none⟩) n n) (h1:0<=sl) (h2:sl < (n:Int)) (h3:0<=pos) (h4:0<=num) :
  Calls Tryz.prog 93 #[.pointer (some ⟨g,0,none⟩),.agg #[.int .u8 7,.int .i64 sl,.int .i64 pos,.int .i64 num,.int .u32 0,.int .u8 0,.string ⟨#[]⟩]] w fun e w'=>e=.returned (.bool true)/\Ch (fun _=>False) w w':=by
 have d1:decide (0<=sl)=true:=decide_eq_true h1
 have d2:decide (sl < (n:Int))=true:=decide_eq_true h2
 have d3:decide (0<=pos)=true:=decide_eq_true h3
 have d4:decide (0<=num)=true:=decide_eq_true h4
 have H:=hid h
 have HS:=hid hs
 have lg:=h.lt
 clear h hs h1 h2 h3 h4
 go_enter Tryz.func93,Tryz.ntmps93
 go_wp2_with fail
 obtain ⟨xb,hxb⟩:∃x,x=w.heap.size+1:=⟨_,rfl⟩
 rw [<-hxb]
 have nx:w.heap.size≠xb:=by omega
 have nx2:xb≠w.heap.size:=Ne.symm nx
 obtain ⟨S,hS⟩:∃S:Nat->Prop,∀k,S k↔k=w.heap.size:=⟨_,fun _=>Iff.rfl⟩
 have hSp:Mix.Has S w.heap.size:=(hS _).2 rfl
 have HSS:=hid hS
 have HXB:=hid hxb
 clear hS hxb
 refine Mix.rg S [0,0,1,4,0,3,0,2] [0,1,2,3,4,5,6,7] ?_
 refine Mix.mix_world fun W1 hW1=>?_
 have T1:=hid (show Blk W1 w.heap.size 26 #[.int .u8 7,.int .i64 sl,.int .i64 pos,.int .i64 num,.int .u32 0,.int .u8 0,.string ⟨#[]⟩] from by rw [hW1];exact (Blk.new w _ _).alloc _)
 have X1:=hid (show Blk W1 xb 26 #[.int .u8 7,.int .i64 0,.int .i64 0,.int .i64 0,.int .u32 0,.int .u8 0,.string ⟨#[]⟩] from by rw [hW1,HXB.out];have t:=Blk.new (w.alloc (.cells #[.int .u8 7,.int .i64 sl,.int .i64 pos,.int .i64 num,.int .u32 0,.int .u8 0,.string ⟨#[]⟩] 26)) 26 #[.int .u8 7,.int .i64 0,.int .i64 0,.int .i64 0,.int .u32 0,.int .u8 0,.string ⟨#[]⟩];simpa using t)
 have C1:=hid (show Ch (fun _=>False) w W1 from by rw [hW1];exact ((Ch.refl _ w).alloc _).alloc _)
 clear hW1
 obtain ⟨-,-,t2,t3⟩:=T1.out.c4
 obtain ⟨-,-,x2,x3⟩:=X1.out.c4
 have y2:=X1.out.free 2
 have y3:=X1.out.free 3
 repeat ((first | refine Mix.zq ?_ | refine Mix.zp ?_ | refine Mix.zs ?_);go_big_quiet_step (fail);refine wpQuiet_nil ?_)
 refine Mix.za fun W2 hW2=>?_
 obtain ⟨k2,rfl⟩:=hW2
 go_wp2_with fail
 refine ⟨fun k hk=>by rw [(HSS.out k).1 hk];exact (((Ch.refl (fun b=>b=xb) W1).drewN k2).set (fun _=>rfl) _).block _ T1.out.lt nx,?_⟩
 repeat ((first | refine Mix.zq ?_ | refine Mix.zp ?_ | refine Mix.zs ?_);go_big_quiet_step (fail);refine wpQuiet_nil ?_)
 refine Mix.ze fun W3 hW3=>?_
 obtain ⟨k3,rfl⟩:=hW3
 go_wp2_with fail
 intro k4
 refine at_world fun W4 hW4=>?_
 have T4:=hid (show Blk W4 w.heap.size 26 #[.int .u8 7,.int .i64 sl,.int .i64 pos,.int .i64 num,.int .u32 0,.int .u8 0,.string ⟨#[]⟩] from by rw [hW4];exact ((((T1.out.drewN k2).far nx _).drewN k3).far nx _).drewN k4)
 have X4:=hid (show Blk W4 xb 26 #[.int .u8 7,.int .i64 0,.int .i64 pos,.int .i64 num,.int .u32 0,.int .u8 0,.string ⟨#[]⟩] from by rw [hW4];exact ((((X1.out.drewN k2).put 2 _).drewN k3).put 3 _).drewN k4)
 have C4:=hid (show Ch (fun _=>False) w W4 from by rw [hW4];exact ((((C1.out.drewN k2).set (fun h=>absurd h (by have:=HXB.out;omega)) _).drewN k3).set (fun h=>absurd h (by have:=HXB.out;omega)) _).drewN k4)
 clear hW4 t2 t3 x2 x3 y2 y3
 have t1:W4.cell? ⟨w.heap.size,1,none⟩=some (.int .i64 sl):=T4.out.cell 1
 have x1:W4.cell? ⟨xb,1,none⟩=some (.int .i64 0):=X4.out.cell 1
 have y1:=X4.out.free 1
 go_wp2_with fail
 refine at_world fun W5 hW5=>?_
 have T5:=hid (show Blk W5 w.heap.size 26 #[.int .u8 7,.int .i64 sl,.int .i64 pos,.int .i64 num,.int .u32 0,.int .u8 0,.string ⟨#[]⟩] from by rw [hW5];exact T4.out.far nx _)
 have X5:=hid (show Blk W5 xb 26 #[.int .u8 7,.int .i64 sl,.int .i64 pos,.int .i64 num,.int .u32 0,.int .u8 0,.string ⟨#[]⟩] from by rw [hW5];exact X4.out.put 1 _)
 have C5:=hid (show Ch (fun _=>False) w W5 from by rw [hW5];exact C4.out.set (fun h=>absurd h (by have:=HXB.out;omega)) _)
 clear hW5 t1 x1 y1
 have t0:W5.cell? ⟨w.heap.size,0,none⟩=some (.int .u8 7):=T5.out.cell 0
 have x0:W5.cell? ⟨xb,0,none⟩=some (.int .u8 7):=X5.out.cell 0
 have t1:W5.cell? ⟨w.heap.size,1,none⟩=some (.int .i64 sl):=T5.out.cell 1
 have x1:W5.cell? ⟨xb,1,none⟩=some (.int .i64 sl):=X5.out.cell 1
 have t2:W5.cell? ⟨w.heap.size,2,none⟩=some (.int .i64 pos):=T5.out.cell 2
 have x2:W5.cell? ⟨xb,2,none⟩=some (.int .i64 pos):=X5.out.cell 2
 have t3:W5.cell? ⟨w.heap.size,3,none⟩=some (.int .i64 num):=T5.out.cell 3
 have x3:W5.cell? ⟨xb,3,none⟩=some (.int .i64 num):=X5.out.cell 3
 have t4:W5.cell? ⟨w.heap.size,4,none⟩=some (.int .u32 0):=T5.out.cell 4
 have x4:W5.cell? ⟨xb,4,none⟩=some (.int .u32 0):=X5.out.cell 4
 have t5:W5.cell? ⟨w.heap.size,5,none⟩=some (.int .u8 0):=T5.out.cell 5
 have x5:W5.cell? ⟨xb,5,none⟩=some (.int .u8 0):=X5.out.cell 5
 have t6:W5.cell? ⟨w.heap.size,6,none⟩=some (.string ⟨#[]⟩):=T5.out.cell 6
 have x6:W5.cell? ⟨xb,6,none⟩=some (.string ⟨#[]⟩):=X5.out.cell 6
 have a2:W5.cell? ⟨g,2,none⟩=some (.slice (some ⟨lb,0,none⟩) n n):=((C5.out.blk H.out (fun e=>e)).cell 2).trans (by rw [<-HS.out];rfl)
 refine Mix.rt [0,0,0,0,0,0,0,0,0,0,0,0,0,0,0,0,0,0,0,0,0,0,0,0,0,0,0,0,0,0,0,0] [0,1,2,3,4,5,6,7,8,9,10,11,12,13,14,15,16,17,18,19,20,21,22,23,24,25,26,27,28,29,30,31] ?_
 repeat ((first | refine Mix.zq ?_ | refine Mix.zp ?_ | refine Mix.zs ?_);go_big_quiet_step (fail);refine wpQuiet_nil ?_)
 intro k6
 go_wp2_with fail
 go_ret
 exact ⟨rfl,C5.out.drewN k6⟩
theorem formed_10 (g lb n:Nat) (r:Rd) (sl id:Int) (w:World) (h:Blk w g 111 r.cells) (hs:r.sl=.slice (some ⟨lb,0,none⟩) n n) (h1:0<=sl) (h2:sl < (n:Int)) (h5:id≠0) :
  Calls Tryz.prog 93 #[.pointer (some ⟨g,0,none⟩),.agg #[.int .u8 10,.int .i64 sl,.int .i64 0,.int .i64 0,.int .u32 id,.int .u8 0,.string ⟨#[]⟩]] w fun e w'=>e=.returned (.bool true)/\Ch (fun _=>False) w w':=by
 have d1:decide (0<=sl)=true:=decide_eq_true h1
 have d2:decide (sl < (n:Int))=true:=decide_eq_true h2
 have d5:(id != 0)=true:=by rw [bne_iff_ne];exact h5
 have H:=hid h
 have HS:=hid hs
 have lg:=h.lt
 clear h hs h1 h2 h5
 go_enter Tryz.func93,Tryz.ntmps93
 go_wp2_with fail
 obtain ⟨xb,hxb⟩:∃x,x=w.heap.size+1:=⟨_,rfl⟩
 rw [<-hxb]
 have nx:w.heap.size≠xb:=by omega
 have nx2:xb≠w.heap.size:=Ne.symm nx
 obtain ⟨S,hS⟩:∃S:Nat->Prop,∀k,S k↔k=w.heap.size:=⟨_,fun _=>Iff.rfl⟩
 have hSp:Mix.Has S w.heap.size:=(hS _).2 rfl
 have HSS:=hid hS
 have HXB:=hid hxb
 clear hS hxb
 refine Mix.rg S [0,0,1,4,1,0,3,0] [0,1,2,3,4,5,6,7] ?_
 refine Mix.mix_world fun W1 hW1=>?_
 have T1:=hid (show Blk W1 w.heap.size 26 #[.int .u8 10,.int .i64 sl,.int .i64 0,.int .i64 0,.int .u32 id,.int .u8 0,.string ⟨#[]⟩] from by rw [hW1];exact (Blk.new w _ _).alloc _)
 have X1:=hid (show Blk W1 xb 26 #[.int .u8 10,.int .i64 0,.int .i64 0,.int .i64 0,.int .u32 0,.int .u8 0,.string ⟨#[]⟩] from by rw [hW1,HXB.out];have t:=Blk.new (w.alloc (.cells #[.int .u8 10,.int .i64 sl,.int .i64 0,.int .i64 0,.int .u32 id,.int .u8 0,.string ⟨#[]⟩] 26)) 26 #[.int .u8 10,.int .i64 0,.int .i64 0,.int .i64 0,.int .u32 0,.int .u8 0,.string ⟨#[]⟩];simpa using t)
 have C1:=hid (show Ch (fun _=>False) w W1 from by rw [hW1];exact ((Ch.refl _ w).alloc _).alloc _)
 clear hW1
 have t4:W1.cell? ⟨w.heap.size,4,none⟩=some (.int .u32 id):=T1.out.cell 4
 have x4:W1.cell? ⟨xb,4,none⟩=some (.int .u32 0):=X1.out.cell 4
 have y4:=X1.out.free 4
 repeat ((first | refine Mix.zq ?_ | refine Mix.zp ?_ | refine Mix.zs ?_);go_big_quiet_step (fail);refine wpQuiet_nil ?_)
 refine Mix.za fun W2 hW2=>?_
 obtain ⟨k2,rfl⟩:=hW2
 go_wp2_with fail
 refine ⟨fun k hk=>by rw [(HSS.out k).1 hk];exact (((Ch.refl (fun b=>b=xb) W1).drewN k2).set (fun _=>rfl) _).block _ T1.out.lt nx,?_⟩
 repeat ((first | refine Mix.zq ?_ | refine Mix.zp ?_ | refine Mix.zs ?_);go_big_quiet_step (fail);refine wpQuiet_nil ?_)
 intro k4
 refine at_world fun W4 hW4=>?_
 have T4:=hid (show Blk W4 w.heap.size 26 #[.int .u8 10,.int .i64 sl,.int .i64 0,.int .i64 0,.int .u32 id,.int .u8 0,.string ⟨#[]⟩] from by rw [hW4];exact ((T1.out.drewN k2).far nx _).drewN k4)
 have X4:=hid (show Blk W4 xb 26 #[.int .u8 10,.int .i64 0,.int .i64 0,.int .i64 0,.int .u32 id,.int .u8 0,.string ⟨#[]⟩] from by rw [hW4];exact ((X1.out.drewN k2).put 4 _).drewN k4)
 have C4:=hid (show Ch (fun _=>False) w W4 from by rw [hW4];exact ((C1.out.drewN k2).set (fun h=>absurd h (by have:=HXB.out;omega)) _).drewN k4)
 clear hW4 t4 x4 y4
 have t1:W4.cell? ⟨w.heap.size,1,none⟩=some (.int .i64 sl):=T4.out.cell 1
 have x1:W4.cell? ⟨xb,1,none⟩=some (.int .i64 0):=X4.out.cell 1
 have y1:=X4.out.free 1
 go_wp2_with fail
 refine at_world fun W5 hW5=>?_
 have T5:=hid (show Blk W5 w.heap.size 26 #[.int .u8 10,.int .i64 sl,.int .i64 0,.int .i64 0,.int .u32 id,.int .u8 0,.string ⟨#[]⟩] from by rw [hW5];exact T4.out.far nx _)
 have X5:=hid (show Blk W5 xb 26 #[.int .u8 10,.int .i64 sl,.int .i64 0,.int .i64 0,.int .u32 id,.int .u8 0,.string ⟨#[]⟩] from by rw [hW5];exact X4.out.put 1 _)
 have C5:=hid (show Ch (fun _=>False) w W5 from by rw [hW5];exact C4.out.set (fun h=>absurd h (by have:=HXB.out;omega)) _)
 clear hW5 t1 x1 y1
 have t0:W5.cell? ⟨w.heap.size,0,none⟩=some (.int .u8 10):=T5.out.cell 0
 have x0:W5.cell? ⟨xb,0,none⟩=some (.int .u8 10):=X5.out.cell 0
 have t1:W5.cell? ⟨w.heap.size,1,none⟩=some (.int .i64 sl):=T5.out.cell 1
 have x1:W5.cell? ⟨xb,1,none⟩=some (.int .i64 sl):=X5.out.cell 1
 have t2:W5.cell? ⟨w.heap.size,2,none⟩=some (.int .i64 0):=T5.out.cell 2
 have x2:W5.cell? ⟨xb,2,none⟩=some (.int .i64 0):=X5.out.cell 2
 have t3:W5.cell? ⟨w.heap.size,3,none⟩=some (.int .i64 0):=T5.out.cell 3
 have x3:W5.cell? ⟨xb,3,none⟩=some (.int .i64 0):=X5.out.cell 3
 have t4:W5.cell? ⟨w.heap.size,4,none⟩=some (.int .u32 id):=T5.out.cell 4
 have x4:W5.cell? ⟨xb,4,none⟩=some (.int .u32 id):=X5.out.cell 4
 have t5:W5.cell? ⟨w.heap.size,5,none⟩=some (.int .u8 0):=T5.out.cell 5
 have x5:W5.cell? ⟨xb,5,none⟩=some (.int .u8 0):=X5.out.cell 5
 have t6:W5.cell? ⟨w.heap.size,6,none⟩=some (.string ⟨#[]⟩):=T5.out.cell 6
 have x6:W5.cell? ⟨xb,6,none⟩=some (.string ⟨#[]⟩):=X5.out.cell 6
 have a2:W5.cell? ⟨g,2,none⟩=some (.slice (some ⟨lb,0,none⟩) n n):=((C5.out.blk H.out (fun e=>e)).cell 2).trans (by rw [<-HS.out];rfl)
 refine Mix.rt [0,0,0,0,0,0,0,0,0,0,0,0,0,0,0,0,0,0,0,0,0,0,0,0,0,0,0,0,0,0,0,0] [0,1,2,3,4,5,6,7,8,9,10,11,12,13,14,15,16,17,18,19,20,21,22,23,24,25,26,27,28,29,30,31] ?_
 repeat ((first | refine Mix.zq ?_ | refine Mix.zp ?_ | refine Mix.zs ?_);go_big_quiet_step (fail);refine wpQuiet_nil ?_)
 intro k6
 go_wp2_with fail
 go_ret
 exact ⟨rfl,C5.out.drewN k6⟩
theorem formed_s (g lb n:Nat) (r:Rd) (k sl pos num:Int) (w:World) (h:Blk w g 111 r.cells) (hs:r.sl=.slice (some ⟨lb,0,none⟩) n n) (hk:(k=6/\pos=0/\num=0)\/(k=13/\pos=0/\num=0)\/(k=8/\pos=0)\/(k=9/\pos=0)\/(k=12/\pos=0)\/(k=11/\num=0)) (h1:0<=sl) (h2:sl < (n:Int)) (h3:0<=pos) (h4:0<=num) :
  Calls Tryz.prog 93 #[.pointer (some ⟨g,0,none⟩),.agg #[.int .u8 k,.int .i64 sl,.int .i64 pos,.int .i64 num,.int .u32 0,.int .u8 0,.string ⟨#[]⟩]] w fun e w'=>e=.returned (.bool true)/\Ch (fun _=>False) w w':=by
 have d1:decide (0<=sl)=true:=decide_eq_true h1
 have d2:decide (sl < (n:Int))=true:=decide_eq_true h2
 have d3:decide (0<=pos)=true:=decide_eq_true h3
 have d4:decide (0<=num)=true:=decide_eq_true h4
 have H:=hid h
 have HS:=hid hs
 have lg:=h.lt
 clear h hs h1 h2 h3 h4
 obtain ⟨C,hC⟩:∃C:Array Value,C=#[.int .u8 k,.int .i64 sl,.int .i64 pos,.int .i64 num,.int .u32 0,.int .u8 0,.string ⟨#[]⟩]:=⟨_,rfl⟩
 have HC:=hid hC
 clear hC
 rcases hk with ⟨rfl,rfl,rfl⟩ | ⟨rfl,rfl,rfl⟩ | ⟨rfl,rfl⟩ | ⟨rfl,rfl⟩ | ⟨rfl,rfl⟩ | ⟨rfl,rfl⟩
 all_goals
  go_enter Tryz.func93,Tryz.ntmps93
  go_wp2_with fail
  obtain ⟨xb,hxb⟩:∃x,x=w.heap.size+1:=⟨_,rfl⟩
  rw [<-hxb]
  have nx:w.heap.size≠xb:=by omega
  have nx2:xb≠w.heap.size:=Ne.symm nx
  refine at_world fun W5 hW5=>?_
  have T5:Blk W5 w.heap.size 26 C:=by
   rw [hW5,HC.out]
   exact (Blk.new w 26 _).alloc _
  have X5:Blk W5 xb 26 C:=by
   rw [hW5,hxb]
   have t:=Blk.new (w.alloc (.cells C 26)) 26 C
   rw [HC.out] at t |-
   simpa using t
  have C5:=hid (show Ch (fun _=>False) w W5 from by rw [hW5];exact ((Ch.refl (fun _=>False) w).alloc _).alloc _)
  clear hW5 hxb
  rw [HC.out] at T5 X5
  have t0:W5.cell? ⟨w.heap.size,0,none⟩=some (_):=T5.cell 0
  have x0:W5.cell? ⟨xb,0,none⟩=some (_):=X5.cell 0
  have t1:W5.cell? ⟨w.heap.size,1,none⟩=some (_):=T5.cell 1
  have x1:W5.cell? ⟨xb,1,none⟩=some (_):=X5.cell 1
  have t2:W5.cell? ⟨w.heap.size,2,none⟩=some (_):=T5.cell 2
  have x2:W5.cell? ⟨xb,2,none⟩=some (_):=X5.cell 2
  have t3:W5.cell? ⟨w.heap.size,3,none⟩=some (_):=T5.cell 3
  have x3:W5.cell? ⟨xb,3,none⟩=some (_):=X5.cell 3
  have t4:W5.cell? ⟨w.heap.size,4,none⟩=some (_):=T5.cell 4
  have x4:W5.cell? ⟨xb,4,none⟩=some (_):=X5.cell 4
  have t5:W5.cell? ⟨w.heap.size,5,none⟩=some (_):=T5.cell 5
  have x5:W5.cell? ⟨xb,5,none⟩=some (_):=X5.cell 5
  have t6:W5.cell? ⟨w.heap.size,6,none⟩=some (_):=T5.cell 6
  have x6:W5.cell? ⟨xb,6,none⟩=some (_):=X5.cell 6
  clear T5 X5
  have a2:W5.cell? ⟨g,2,none⟩=some (.slice (some ⟨lb,0,none⟩) n n):=((C5.out.blk H.out (fun e=>e)).cell 2).trans (by rw [<-HS.out];rfl)
  refine Mix.rt [0,0,0,0,0,0,0,0,0,0,0,0,0,0,0,0,0,0,0,0,0,0,0,0,0,0,0,0,0,0,0,0] [0,1,2,3,4,5,6,7,8,9,10,11,12,13,14,15,16,17,18,19,20,21,22,23,24,25,26,27,28,29,30,31] ?_
  repeat ((first | refine Mix.zq ?_ | refine Mix.zp ?_ | refine Mix.zs ?_);go_big_quiet_step (fail);refine wpQuiet_nil ?_)
  intro k6
  go_wp2_with fail
  go_ret
  exact ⟨rfl,C5.out.drewN k6⟩
def Formed (g:Nat) (r:Rd) (op:OpV):Prop:=∀W:World,Blk W g 111 r.cells->Calls Tryz.prog 93 #[.pointer (some ⟨g,0,none⟩),op.v] W fun e w'=>e=.returned (.bool true)/\Ch (fun _=>False) W w'
theorem fm5 (g:Nat) (r:Rd):Formed g r ⟨5,0,0,0,0,0,⟨#[]⟩⟩:=fun W _=>formed_5 g W
theorem fm6 (g lb n:Nat) (r:Rd) (sl:Int) (hs:r.sl=.slice (some ⟨lb,0,none⟩) n n) (h1:0<=sl) (h2:sl < (n:Int)):Formed g r ⟨6,sl,0,0,0,0,⟨#[]⟩⟩:=fun W h=>formed_s g lb n r 6 sl 0 0 W h hs (.inl ⟨rfl,rfl,rfl⟩) h1 h2 (by decide) (by decide)
theorem fm7 (g lb n:Nat) (r:Rd) (sl pos num:Int) (hs:r.sl=.slice (some ⟨lb,0,none⟩) n n) (h1:0<=sl) (h2:sl < (n:Int)) (h3:0<=pos) (h4:0<=num):Formed g r ⟨7,sl,pos,num,0,0,⟨#[]⟩⟩:=fun W h=>formed_7 g lb n r sl pos num W h hs h1 h2 h3 h4
theorem fm8 (g lb n:Nat) (r:Rd) (sl num:Int) (hs:r.sl=.slice (some ⟨lb,0,none⟩) n n) (h1:0<=sl) (h2:sl < (n:Int)) (h4:0<=num):Formed g r ⟨8,sl,0,num,0,0,⟨#[]⟩⟩:=fun W h=>formed_s g lb n r 8 sl 0 num W h hs (.inr (.inr (.inl ⟨rfl,rfl⟩))) h1 h2 (by decide) h4
theorem fm9 (g lb n:Nat) (r:Rd) (sl num:Int) (hs:r.sl=.slice (some ⟨lb,0,none⟩) n n) (h1:0<=sl) (h2:sl < (n:Int)) (h4:0<=num):Formed g r ⟨9,sl,0,num,0,0,⟨#[]⟩⟩:=fun W h=>formed_s g lb n r 9 sl 0 num W h hs (.inr (.inr (.inr (.inl ⟨rfl,rfl⟩)))) h1 h2 (by decide) h4
theorem fm10 (g lb n:Nat) (r:Rd) (sl i:Int) (hs:r.sl=.slice (some ⟨lb,0,none⟩) n n) (h1:0<=sl) (h2:sl < (n:Int)) (h5:i≠0):Formed g r ⟨10,sl,0,0,i,0,⟨#[]⟩⟩:=fun W h=>formed_10 g lb n r sl i W h hs h1 h2 h5
theorem fm11 (g lb n:Nat) (r:Rd) (sl pos:Int) (hs:r.sl=.slice (some ⟨lb,0,none⟩) n n) (h1:0<=sl) (h2:sl < (n:Int)) (h3:0<=pos):Formed g r ⟨11,sl,pos,0,0,0,⟨#[]⟩⟩:=fun W h=>formed_s g lb n r 11 sl pos 0 W h hs (.inr (.inr (.inr (.inr (.inr ⟨rfl,rfl⟩))))) h1 h2 h3 (by decide)
theorem fm12 (g lb n:Nat) (r:Rd) (sl num:Int) (hs:r.sl=.slice (some ⟨lb,0,none⟩) n n) (h1:0<=sl) (h2:sl < (n:Int)) (h4:0<=num):Formed g r ⟨12,sl,0,num,0,0,⟨#[]⟩⟩:=fun W h=>formed_s g lb n r 12 sl 0 num W h hs (.inr (.inr (.inr (.inr (.inl ⟨rfl,rfl⟩))))) h1 h2 (by decide) h4
theorem fm13 (g lb n:Nat) (r:Rd) (sl:Int) (hs:r.sl=.slice (some ⟨lb,0,none⟩) n n) (h1:0<=sl) (h2:sl < (n:Int)):Formed g r ⟨13,sl,0,0,0,0,⟨#[]⟩⟩:=fun W h=>formed_s g lb n r 13 sl 0 0 W h hs (.inr (.inl ⟨rfl,rfl,rfl⟩)) h1 h2 (by decide) (by decide)
theorem check_acq (g:Nat) (r:Rd) (w:World) (h:Blk w g 111 r.cells):Calls Tryz.prog 61 #[.pointer (some ⟨g,0,none⟩),OpV.v ⟨5,0,0,0,0,0,⟨#[]⟩⟩] w fun e w'=>e=.returned (.int .i64 0)/\Ch (fun _=>False) w w':=by
 have HF:=hid (fm5 g r)
 have H:=hid h
 simp only [OpV.v] at HF |-
 clear h
 go_enter Tryz.func61,Tryz.ntmps61
 go_wp2_with fail
 refine calls_world fun W1 hW1=>?_
 have C1:=hid (show Ch (fun _=>False) w W1 from by rw [hW1];exact (Ch.refl _ w).alloc _)
 have T1:=hid (show Blk W1 w.heap.size 26 #[.int .u8 5,.int .i64 0,.int .i64 0,.int .i64 0,.int .u32 0,.int .u8 0,.string ⟨#[]⟩] from by rw [hW1];exact Blk.new w _ _)
 clear hW1
 refine (HF.out W1 (C1.out.blk H.out id)).mono ?_
 rintro e w2 ⟨rfl,hc⟩
 have C2:=hid (C1.out.trans hc (fun _ _ h=>h))
 have t0:w2.cell? ⟨w.heap.size,0,none⟩=some (.int .u8 5):=(hc.blk T1.out id).cell 0
 clear hc
 go_wp2_with fail
 go_ret
 exact ⟨rfl,C2.out⟩
theorem check_free (g lb n j:Nat) (r:Rd) (op:OpV) (l:List (Option Nat)) (w:World) (h:Blk w g 111 r.cells) (hs:r.sl=.slice (some ⟨lb,0,none⟩) n n) (hl:Blk w lb 140 (pinsA l)) (hop:op.sl=(j:Int)) (hj:j < n) (hlj:l[j]?=some none) (hF:Formed g r op) (hk:op.k≠5) :
  Calls Tryz.prog 61 #[.pointer (some ⟨g,0,none⟩),op.v] w fun e w'=>e=.returned (.int .i64 16)/\Ch (fun _=>False) w w':=by
 have HF:=hid hF
 have H:=hid h
 have HL:=hid hl
 have HS:=hid hs
 have HJ:=hid hlj
 obtain ⟨d1,d2⟩:=dc_ltT (a:=j) (b:=n) (by omega)
 obtain ⟨k,sl,pos,num,id',gr,s⟩:=op
 simp only at hop hk
 subst hop
 have d0:(k == 5)=false:=by rw [beq_eq_false_iff_ne];exact hk
 simp only [OpV.v] at HF |-
 clear h hl hs hlj hF hk
 go_enter Tryz.func61,Tryz.ntmps61
 go_wp2_with fail
 refine calls_world fun W1 hW1=>?_
 have C1:=hid (show Ch (fun _=>False) w W1 from by rw [hW1];exact (Ch.refl _ w).alloc _)
 have T1:=hid (show Blk W1 w.heap.size 26 #[.int .u8 k,.int .i64 (j:Int),.int .i64 pos,.int .i64 num,.int .u32 id',.int .u8 gr,.string s] from by rw [hW1];exact Blk.new w _ _)
 clear hW1
 refine (HF.out W1 (C1.out.blk H.out (fun e=>e))).mono ?_
 rintro e w2 ⟨rfl,hc⟩
 have C2:=hid (C1.out.trans hc (fun _ _ h=>h))
 have T2:=hc.blk T1.out (fun e=>e)
 obtain ⟨t0,t1⟩:=T2.c2
 have a2:w2.cell? ⟨g,2,none⟩=some (.slice (some ⟨lb,0,none⟩) n n):=((C2.out.blk H.out (fun e=>e)).cell 2).trans (by rw [<-HS.out];rfl)
 have lj:w2.cell? ⟨lb,j,none⟩=some (.pointer none):=((C2.out.blk HL.out (fun e=>e)).cell j).trans (pinsA_at (o:=none) HJ.out)
 clear hc T2
 go_wp2_with fail
 refine Mix.rt [0,0,0,0,0,0,0,0,0] [0,1,2,3,4,5,6,7,8] ?_
 repeat ((first | refine Mix.zq ?_ | refine Mix.zp ?_ | refine Mix.zs ?_);go_big_quiet_step (fail);refine wpQuiet_nil ?_)
 intro k3
 go_wp2_with fail
 go_ret
 exact ⟨rfl,C2.out.drewN k3⟩
theorem check_held (g lb n j sg:Nat) (r:Rd) (op:OpV) (l:List (Option Nat)) (x:Rv) (mv dv:Value) (ix cu:Int) (w:World) (h:Blk w g 111 r.cells) (hs:r.sl=.slice (some ⟨lb,0,none⟩) n n) (hl:Blk w lb 140 (pinsA l)) (hop:op.sl=(j:Int)) (hj:j < n) (hlj:l[j]?=some (some sg))
  (hsg:Blk w sg 144 #[.int .i64 x.num,.int .u64 x.at',.int .i64 x.h,.int .i64 x.b,.int .i64 x.r,.int .i64 x.l,mv,dv,.int .i64 ix,.int .i64 cu]) (hF:Formed g r op) (hk:op.k=6\/op.k=12\/op.k=13) :
  Calls Tryz.prog 61 #[.pointer (some ⟨g,0,none⟩),op.v] w fun e w'=>e=.returned (.int .i64 0)/\Ch (fun _=>False) w w':=by
 have HF:=hid hF
 have H:=hid h
 have HL:=hid hl
 have HS:=hid hs
 have HJ:=hid hlj
 have HSG:=hid hsg
 obtain ⟨d1,d2⟩:=dc_ltT (a:=j) (b:=n) (by omega)
 obtain ⟨k,sl,pos,num,id',gr,s⟩:=op
 simp only at hop hk
 subst hop
 have e5:(k == 5)=false:=by rw [beq_eq_false_iff_ne];omega
 have e7:(k == 7)=false:=by rw [beq_eq_false_iff_ne];omega
 have e8:(k == 8)=false:=by rw [beq_eq_false_iff_ne];omega
 have e9:(k == 9)=false:=by rw [beq_eq_false_iff_ne];omega
 have e10:(k == 10)=false:=by rw [beq_eq_false_iff_ne];omega
 have e11:(k == 11)=false:=by rw [beq_eq_false_iff_ne];omega
 simp only [OpV.v] at HF |-
 clear h hl hs hlj hF hk hsg
 go_enter Tryz.func61,Tryz.ntmps61
 go_wp2_with fail
 refine calls_world fun W1 hW1=>?_
 have C1:=hid (show Ch (fun _=>False) w W1 from by rw [hW1];exact (Ch.refl _ w).alloc _)
 have T1:=hid (show Blk W1 w.heap.size 26 #[.int .u8 k,.int .i64 (j:Int),.int .i64 pos,.int .i64 num,.int .u32 id',.int .u8 gr,.string s] from by rw [hW1];exact Blk.new w _ _)
 clear hW1
 refine (HF.out W1 (C1.out.blk H.out (fun e=>e))).mono ?_
 rintro e w2 ⟨rfl,hc⟩
 have C2:=hid (C1.out.trans hc (fun _ _ h=>h))
 have T2:=hid (hc.blk T1.out (fun e=>e))
 have lt2:=T2.out.lt
 obtain ⟨t0,t1⟩:=T2.out.c2
 have a2:w2.cell? ⟨g,2,none⟩=some (.slice (some ⟨lb,0,none⟩) n n):=((C2.out.blk H.out (fun e=>e)).cell 2).trans (by rw [<-HS.out];rfl)
 have lj:w2.cell? ⟨lb,j,none⟩=some (.pointer (some ⟨sg,0,none⟩)):=((C2.out.blk HL.out (fun e=>e)).cell j).trans (pinsA_at (o:=some sg) HJ.out)
 have SG2:=hid (C2.out.blk HSG.out (fun e=>e))
 obtain ⟨-,-,-,s3,s4,s5⟩:=SG2.out.c6
 clear hc
 go_wp2_with fail
 refine Mix.rt [0,0,0,0,0,0,0,0,0] [0,1,2,3,4,5,6,7,8] ?_
 repeat ((first | refine Mix.zq ?_ | refine Mix.zp ?_ | refine Mix.zs ?_);go_big_quiet_step (fail);refine wpQuiet_nil ?_)
 intro k3
 refine at_world fun W3 hW3=>?_
 have C3:=hid (show Ch (fun _=>False) w W3 from by rw [hW3];exact C2.out.drewN k3)
 have T3:=hid (show Blk W3 w.heap.size 26 #[.int .u8 k,.int .i64 (j:Int),.int .i64 pos,.int .i64 num,.int .u32 id',.int .u8 gr,.string s] from by rw [hW3];exact T2.out.drewN k3)
 clear hW3 t0 t1 a2 lj s3 s4 s5 lt2
 have SG3:=hid (C3.out.blk HSG.out (fun e=>e))
 have lt3:=T3.out.lt
 have t0:W3.cell? ⟨w.heap.size,0,none⟩=some (.int .u8 k):=T3.out.cell 0
 obtain ⟨-,-,-,s3,s4,s5⟩:=SG3.out.c6
 go_wp2_with fail
 go_ret
 exact ⟨rfl,C3.out.alloc _⟩
def closedF (g:Nat):Value:=.func (.func 64) #[.pointer (some ⟨g,0,none⟩)] #[]
def releaseF (g:Nat):Value:=.func (.func 68) #[.pointer (some ⟨g,0,none⟩)] #[]
def OpV.arr (x:OpV):Array Value:=#[.int .u8 x.k,.int .i64 x.sl,.int .i64 x.at',.int .i64 x.n,.int .u32 x.id,.int .u8 x.g,.string x.s]
theorem start_acq (g:Nat) (r:Rd) (w:World) (h:Blk w g 111 r.cells) (hop:r.op=⟨5,0,0,0,0,0,⟨#[]⟩⟩) :
  Calls Tryz.prog 38 #[.pointer (some ⟨g,0,none⟩)] w (RdSet g { r with ph:=2,dv:=closedF g } w (.tuple #[])):=by
 have H:=hid h
 have hc:=h.cell
 have lg:=h.lt
 have o3:w.cell? ⟨g,3,none⟩=some (.int .u8 5):=(hc 3).trans (by simp [Rd.cells,hop])
 have o4:w.cell? ⟨g,4,none⟩=some (.int .i64 0):=(hc 4).trans (by simp [Rd.cells,hop])
 have o5:w.cell? ⟨g,5,none⟩=some (.int .i64 0):=(hc 5).trans (by simp [Rd.cells,hop])
 have o6:w.cell? ⟨g,6,none⟩=some (.int .i64 0):=(hc 6).trans (by simp [Rd.cells,hop])
 have o7:w.cell? ⟨g,7,none⟩=some (.int .u32 0):=(hc 7).trans (by simp [Rd.cells,hop])
 have o8:w.cell? ⟨g,8,none⟩=some (.int .u8 0):=(hc 8).trans (by simp [Rd.cells,hop])
 have o9:w.cell? ⟨g,9,none⟩=some (.string ⟨#[]⟩):=(hc 9).trans (by simp [Rd.cells,hop])
 clear h hc hop
 go_enter Tryz.func38,Tryz.ntmps38
 go_wp2_with fail
 refine calls_world fun W1 hW1=>?_
 have C1:=hid (show Ch (fun _=>False) w W1 from by rw [hW1];exact ((Ch.refl _ w).alloc _).alloc _)
 have R1:=hid (show Blk W1 w.heap.size 45 #[.pointer (some ⟨g,0,none⟩)] from by rw [hW1];exact (Blk.new w _ _).alloc _)
 obtain ⟨ob,hob⟩:∃x,x=w.heap.size+1:=⟨_,rfl⟩
 have T1:=hid (show Blk W1 ob 26 #[.int .u8 5,.int .i64 0,.int .i64 0,.int .i64 0,.int .u32 0,.int .u8 0,.string ⟨#[]⟩] from by rw [hW1,hob];have t:=Blk.new (w.alloc (.cells #[.pointer (some ⟨g,0,none⟩)] 45)) 26 #[.int .u8 5,.int .i64 0,.int .i64 0,.int .i64 0,.int .u32 0,.int .u8 0,.string ⟨#[]⟩];simpa using t)
 rw [<-hob]
 clear hW1 hob o3 o4 o5 o6 o7 o8 o9
 refine (check_acq g r W1 (C1.out.blk H.out id)).mono ?_
 rintro e w2 ⟨rfl,hc⟩
 have C2:=hid (C1.out.trans hc (fun _ _ h=>h))
 have r0:w2.cell? ⟨w.heap.size,0,none⟩=some (.pointer (some ⟨g,0,none⟩)):=(hc.blk R1.out id).cell 0
 have t0:w2.cell? ⟨ob,0,none⟩=some (.int .u8 5):=(hc.blk T1.out id).cell 0
 clear hc
 go_wp2_with fail
 refine (rthen_any g r 2 _ _ _ w2 (C2.out.blk H.out id)).mono ?_
 rintro e w3 ⟨rfl,hb,hc⟩
 go_wp2_with fail
 go_end0
 exact ⟨rfl,hb,(C2.out.mono (fun _ _ e=>e.elim)).trans hc (fun _ _ h=>h)⟩
theorem start_bad (g:Nat) (r:Rd) (er:Int) (w:World) (h:Blk w g 111 r.cells) (he:er≠0) (hck:∀W,Ch (fun _=>False) w W->Calls Tryz.prog 61 #[.pointer (some ⟨g,0,none⟩),r.op.v] W fun e w'=>e=.returned (.int .i64 er)/\Ch (fun _=>False) W w') :
  Calls Tryz.prog 38 #[.pointer (some ⟨g,0,none⟩)] w fun e w'=>∃rb xb,RdSet g { r with ph:=1,dv:=locV rb xb } w (.tuple #[]) e w'/\Blk w' rb 45 #[.pointer (some ⟨g,0,none⟩)]/\Blk w' xb 41 (RsV.arr { RsV.zero with er:=er })/\w.heap.size<=rb/\rb < xb:=by
 have H:=hid h
 have HCK:=hid hck
 have hc:=h.cell
 have lg:=h.lt
 have d1:(er != 0)=true:=by rw [bne_iff_ne];exact he
 have o3:w.cell? ⟨g,3,none⟩=some (.int .u8 r.op.k):=hc 3
 have o4:w.cell? ⟨g,4,none⟩=some (.int .i64 r.op.sl):=hc 4
 have o5:w.cell? ⟨g,5,none⟩=some (.int .i64 r.op.at'):=hc 5
 have o6:w.cell? ⟨g,6,none⟩=some (.int .i64 r.op.n):=hc 6
 have o7:w.cell? ⟨g,7,none⟩=some (.int .u32 r.op.id):=hc 7
 have o8:w.cell? ⟨g,8,none⟩=some (.int .u8 r.op.g):=hc 8
 have o9:w.cell? ⟨g,9,none⟩=some (.string r.op.s):=hc 9
 clear h hc hck he
 go_enter Tryz.func38,Tryz.ntmps38
 go_wp2_with fail
 refine calls_world fun W1 hW1=>?_
 have C1:=hid (show Ch (fun _=>False) w W1 from by rw [hW1];exact ((Ch.refl _ w).alloc _).alloc _)
 have R1:=hid (show Blk W1 w.heap.size 45 #[.pointer (some ⟨g,0,none⟩)] from by rw [hW1];exact (Blk.new w _ _).alloc _)
 clear hW1 o3 o4 o5 o6 o7 o8 o9
 refine (HCK.out W1 C1.out).mono ?_
 rintro e w2 ⟨rfl,hc⟩
 have C2:=hid (C1.out.trans hc (fun _ _ h=>h))
 have r0:w2.cell? ⟨w.heap.size,0,none⟩=some (.pointer (some ⟨g,0,none⟩)):=(hc.blk R1.out id).cell 0
 clear hc
 go_wp2_with fail
 refine (rlocal_any g r { RsV.zero with er:=er } w2 (C2.out.blk H.out id)).mono ?_
 rintro e w3 ⟨rb,xb,⟨rfl,hb,hc⟩,h1,h2,h3,h4⟩
 go_wp2_with fail
 (try simp only [Exit.inBlock,Exit.then]);refine bodyPost_ret (results_none rfl _ _ _) rfl ?_
 exact ⟨rb,xb,⟨rfl,hb,(C2.out.mono (fun _ _ e=>e.elim)).trans hc (fun _ _ h=>h)⟩,h1,h2,Nat.le_trans C2.out.size h3,h4⟩
theorem start_rel (g lb n j sg:Nat) (r:Rd) (l:List (Option Nat)) (x:Rv) (mv dv:Value) (ix cu:Int) (w:World) (h:Blk w g 111 r.cells) (hs:r.sl=.slice (some ⟨lb,0,none⟩) n n) (hl:Blk w lb 140 (pinsA l)) (hop:r.op=⟨13,(j:Int),0,0,0,0,⟨#[]⟩⟩) (hj:j < n) (hlj:l[j]?=some (some sg))
  (hsg:Blk w sg 144 #[.int .i64 x.num,.int .u64 x.at',.int .i64 x.h,.int .i64 x.b,.int .i64 x.r,.int .i64 x.l,mv,dv,.int .i64 ix,.int .i64 cu]) :
  Calls Tryz.prog 38 #[.pointer (some ⟨g,0,none⟩)] w (RdSet g { r with ph:=10,dv:=releaseF g } w (.tuple #[])):=by
 have H:=hid h
 have HL:=hid hl
 have HS:=hid hs
 have HJ:=hid hlj
 have HSG:=hid hsg
 have hc:=h.cell
 have lg:=h.lt
 obtain ⟨d1,d2⟩:=dc_ltT (a:=j) (b:=n) (by omega)
 have HF:=hid (fm13 g lb n r (j:Int) hs (by omega) (by omega))
 have o3:w.cell? ⟨g,3,none⟩=some (.int .u8 13):=(hc 3).trans (by simp [Rd.cells,hop])
 have o4:w.cell? ⟨g,4,none⟩=some (.int .i64 (j:Int)):=(hc 4).trans (by simp [Rd.cells,hop])
 have o5:w.cell? ⟨g,5,none⟩=some (.int .i64 0):=(hc 5).trans (by simp [Rd.cells,hop])
 have o6:w.cell? ⟨g,6,none⟩=some (.int .i64 0):=(hc 6).trans (by simp [Rd.cells,hop])
 have o7:w.cell? ⟨g,7,none⟩=some (.int .u32 0):=(hc 7).trans (by simp [Rd.cells,hop])
 have o8:w.cell? ⟨g,8,none⟩=some (.int .u8 0):=(hc 8).trans (by simp [Rd.cells,hop])
 have o9:w.cell? ⟨g,9,none⟩=some (.string ⟨#[]⟩):=(hc 9).trans (by simp [Rd.cells,hop])
 clear h hc hop hl hs hlj hsg
 go_enter Tryz.func38,Tryz.ntmps38
 go_wp2_with fail
 refine calls_world fun W1 hW1=>?_
 have C1:=hid (show Ch (fun _=>False) w W1 from by rw [hW1];exact ((Ch.refl _ w).alloc _).alloc _)
 have R1:=hid (show Blk W1 w.heap.size 45 #[.pointer (some ⟨g,0,none⟩)] from by rw [hW1];exact (Blk.new w _ _).alloc _)
 obtain ⟨ob,hob⟩:∃x,x=w.heap.size+1:=⟨_,rfl⟩
 have T1:=hid (show Blk W1 ob 26 #[.int .u8 13,.int .i64 (j:Int),.int .i64 0,.int .i64 0,.int .u32 0,.int .u8 0,.string ⟨#[]⟩] from by rw [hW1,hob];have t:=Blk.new (w.alloc (.cells #[.pointer (some ⟨g,0,none⟩)] 45)) 26 #[.int .u8 13,.int .i64 (j:Int),.int .i64 0,.int .i64 0,.int .u32 0,.int .u8 0,.string ⟨#[]⟩];simpa using t)
 have lob:=hid (show w.heap.size < ob from by omega)
 rw [<-hob]
 clear hW1 hob o3 o4 o5 o6 o7 o8 o9
 have hck:=check_held g lb n j sg r ⟨13,(j:Int),0,0,0,0,⟨#[]⟩⟩ l x mv dv ix cu W1 (C1.out.blk H.out id) HS.out (C1.out.blk HL.out id) rfl hj HJ.out (C1.out.blk HSG.out id) HF.out (.inr (.inr rfl))
 refine hck.mono ?_
 clear hck
 rintro e w2 ⟨rfl,hc⟩
 have C2:=hid (C1.out.trans hc (fun _ _ h=>h))
 have R2:=hid (hc.blk R1.out id)
 have T2:=hid (hc.blk T1.out id)
 have r0:w2.cell? ⟨w.heap.size,0,none⟩=some (.pointer (some ⟨g,0,none⟩)):=R2.out.cell 0
 have t0:w2.cell? ⟨ob,0,none⟩=some (.int .u8 13):=T2.out.cell 0
 clear hc
 go_wp2_with fail
 obtain ⟨S,hS⟩:∃S:Nat->Prop,∀k,S k↔k < w2.heap.size:=⟨_,fun _=>Iff.rfl⟩
 have hSp1:Mix.Has S w.heap.size:=(hS _).2 R2.out.lt
 have hSp2:Mix.Has S ob:=(hS _).2 T2.out.lt
 have hSp3:Mix.Has S g:=(hS _).2 (C2.out.blk H.out id).lt
 have hSp4:Mix.Has S lb:=(hS _).2 (C2.out.blk HL.out id).lt
 have HSS:=hid hS
 clear hS
 have t1:w2.cell? ⟨ob,1,none⟩=some (.int .i64 (j:Int)):=T2.out.cell 1
 have a2:w2.cell? ⟨g,2,none⟩=some (.slice (some ⟨lb,0,none⟩) n n):=((C2.out.blk H.out (fun e=>e)).cell 2).trans (by rw [<-HS.out];rfl)
 have lj:w2.cell? ⟨lb,j,none⟩=some (.pointer (some ⟨sg,0,none⟩)):=((C2.out.blk HL.out (fun e=>e)).cell j).trans (pinsA_at (o:=some sg) HJ.out)
 refine Mix.rg S [4,1,1,4,1,4,1,4,3,2] [0,1,2,3,4,5,6,7,8,9] ?_
 repeat ((first | refine Mix.zq ?_ | refine Mix.zp ?_ | refine Mix.zs ?_);go_big_quiet_step (fail);refine wpQuiet_nil ?_)
 refine Mix.za fun W3 hW3=>?_
 obtain ⟨k3,rfl⟩:=hW3
 go_wp2_with fail
 refine ⟨fun k hk=>Below.heap_alloc _ _ k ((HSS.out k).1 hk),Mix.mix_world fun W4 hW4=>?_⟩
 have C4:=hid (show Ch (fun _=>False) w W4 from by rw [hW4];first | exact (C2.out.drewN k3).alloc _ | exact C2.out.trans (Ch.push rfl rfl rfl rfl) (fun _ _ h=>h))
 have R4:=hid (show Blk W4 w.heap.size 45 #[.pointer (some ⟨g,0,none⟩)] from by rw [hW4];exact (R2.out.drewN k3).alloc _)
 have T4:=hid (show Blk W4 ob 26 #[.int .u8 13,.int .i64 (j:Int),.int .i64 0,.int .i64 0,.int .u32 0,.int .u8 0,.string ⟨#[]⟩] from by rw [hW4];exact (T2.out.drewN k3).alloc _)
 obtain ⟨zb,hzb⟩:∃z,z=w2.heap.size:=⟨_,rfl⟩
 have Z4:=hid (show Blk W4 zb 140 #[.pointer none] from by rw [hW4,hzb];first | exact Blk.new (w2.drewN k3) _ _ | exact Blk.push rfl)
 have nz1:=hid (show w.heap.size≠zb from by have:=R2.out.lt;omega)
 have nz2:=hid (show ob≠zb from by have:=T2.out.lt;omega)
 have nz3:=hid (show w.heap.size<=zb from by have:=R2.out.lt;omega)
 rw [<-hzb]
 clear hW4 hzb r0 t0 t1 a2 lj
 have z0:W4.cell? ⟨zb,0,none⟩=some (.pointer none):=Z4.out.cell 0
 have z1:=Z4.out.free 0
 repeat ((first | refine Mix.zq ?_ | refine Mix.zp ?_ | refine Mix.zs ?_);go_big_quiet_step (fail);refine wpQuiet_nil ?_)
 refine Mix.ze fun W5 hW5=>?_
 obtain ⟨k5,rfl⟩:=hW5
 go_wp2_with fail
 intro k6
 refine at_world fun W7 hW7=>?_
 have C7:=hid (show Ch (fun _=>False) w W7 from by rw [hW7];exact ((C4.out.drewN k5).set (fun h=>absurd h (by have:=nz3.out;omega)) _).drewN k6)
 have r0:W7.cell? ⟨w.heap.size,0,none⟩=some (.pointer (some ⟨g,0,none⟩)):=by rw [hW7];exact (((R4.out.drewN k5).far nz1.out _).drewN k6).cell 0
 have t0:W7.cell? ⟨ob,0,none⟩=some (.int .u8 13):=by rw [hW7];exact (((T4.out.drewN k5).far nz2.out _).drewN k6).cell 0
 clear hW7 z0 z1
 go_wp2_with fail
 refine (rthen_any g r 10 _ _ _ W7 (C7.out.blk H.out id)).mono ?_
 rintro e w3 ⟨rfl,hb,hc⟩
 go_wp2_with fail
 go_end0
 exact ⟨rfl,hb,(C7.out.mono (fun _ _ e=>e.elim)).trans hc (fun _ _ h=>h)⟩
theorem rbegin_any (g:Nat) (r:Rd) (op:OpV) (w:World) (h:Blk w g 111 r.cells) (hb:r.busy=false) (h5:5<=op.k) (h13:op.k<=13) (Q:World->World->Prop)
  (hst:∀W,Blk W g 111 (Rd.cells { r with op:=op,busy:=true,done:=false })->Ch (fun b=>b=g) w W->Calls Tryz.prog 38 #[.pointer (some ⟨g,0,none⟩)] W fun e w'=>e=.returned (.tuple #[])/\Q W w') :
  Calls Tryz.prog 13 #[.pointer (some ⟨g,0,none⟩),op.v] w fun e w'=>e=.returned (.int .i64 0)/\∃W,Ch (fun b=>b=g) w W/\Q W w':=by
 have H:=hid h
 have HST:=hid hst
 have lg:=h.lt
 have d5:decide (op.k < 5)=false:=decide_eq_false (by omega)
 have d13:decide (13 < op.k)=false:=decide_eq_false (by omega)
 obtain ⟨k,sl,pos,num,id',gr,s⟩:=op
 simp only at d5 d13
 simp only [OpV.v]
 have c10:w.cell? ⟨g,10,none⟩=some (.bool false):=(h.cell 10).trans (by rw [<-hb];rfl)
 obtain ⟨-,-,-,c3,c4,c5,c6,c7,c8,c9,-,-,-,c13⟩:=h.c14
 have f3:=h.free 3
 have f4:=h.free 4
 have f5:=h.free 5
 have f6:=h.free 6
 have f7:=h.free 7
 have f8:=h.free 8
 have f9:=h.free 9
 have f10:=h.free 10
 have f13:=h.free 13
 clear h hst hb h5 h13
 go_enter Tryz.func13,Tryz.ntmps13
 go_wp2_with fail
 refine calls_world fun W1 hW1=>?_
 have B1:=hid (show Blk W1 g 111 (Rd.cells { r with op:=⟨k,sl,pos,num,id',gr,s⟩,busy:=true,done:=false }) from by
  rw [hW1]
  exact Blk.as ((((((((((H.out.put 3 _).put 4 _).put 5 _).put 6 _).put 7 _).put 8 _).put 9 _).put 10 _).put 13 _).alloc _) (by kernel_rfl))
 have C1:=hid (show Ch (fun b=>b=g) w W1 from by
  rw [hW1]
  exact ((((((((((Ch.refl (fun b=>b=g) w).set (fun _=>rfl) _).set (fun _=>rfl) _).set (fun _=>rfl) _).set (fun _=>rfl) _).set (fun _=>rfl) _).set (fun _=>rfl) _).set (fun _=>rfl) _).set (fun _=>rfl) _).set (fun _=>rfl) _).alloc _)
 clear hW1 c3 c4 c5 c6 c7 c8 c9 c10 c13 f3 f4 f5 f6 f7 f8 f9 f10 f13
 refine (HST.out W1 B1.out C1.out).mono ?_
 rintro e w2 ⟨rfl,hq⟩
 have HQ:=hid hq
 clear hq
 go_wp2_with fail
 go_ret
 exact ⟨rfl,W1,C1.out,HQ.out⟩
end Go.Proofs.YtjcdknhejcbpiaaGreat
