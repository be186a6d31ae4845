/- Lemmas that the proof of the last text leans on; no condition. -/
import Derived.Test.YtjcdknhejcbpiaaGreatAb20
import Derived.Test.YtjcdknhejcbpiaaGreatAb19
import Derived.Laws.EntriesVeiled
import Derived.Laws.StructEq
set_option maxRecDepth 100000
set_option maxHeartbeats 2000000
namespace Go.Proofs.YtjcdknhejcbpiaaGreat
open Go.RowKit
set_option linter.unusedVariables false
set_option linter.unusedSimpArgs false
set_option linter.unusedSectionVars false
def OpV.v (x:OpV):Value:=.agg #[.int .u8 x.k,.int .i64 x.sl,.int .i64 x.at',.int .i64 x.n,.int .u32 x.id,.int .u8 x.g,.string x.s]
def acqOp:OpV:=⟨5,0,0,0,0,0,⟨#[]⟩⟩
inductive Cop
 | acq
 | len (k:Nat)
 | read (k a b:Nat)
 | rune (k b:Nat)
 | line (k b:Nat)
 | mark (k:Nat) (i:Int)
 | seek (k a:Nat)
 | next (k b:Nat)
 | rel (k:Nat)
def Cop.op:Cop→OpV
 | .acq=>acqOp
 | .len k=>⟨6,k,0,0,0,0,⟨#[]⟩⟩
 | .read k a b=>⟨7,k,a,b,0,0,⟨#[]⟩⟩
 | .rune k b=>⟨8,k,0,b,0,0,⟨#[]⟩⟩
 | .line k b=>⟨9,k,0,b,0,0,⟨#[]⟩⟩
 | .mark k i=>⟨10,k,0,0,i,0,⟨#[]⟩⟩
 | .seek k a=>⟨11,k,a,0,0,0,⟨#[]⟩⟩
 | .next k b=>⟨12,k,0,b,0,0,⟨#[]⟩⟩
 | .rel k=>⟨13,k,0,0,0,0,⟨#[]⟩⟩
def Cop.slot:Cop→Nat
 | .acq=>0
 | .len k=>k
 | .read k _ _=>k
 | .rune k _=>k
 | .line k _=>k
 | .mark k _=>k
 | .seek k _=>k
 | .next k _=>k
 | .rel k=>k
def Cop.small (n:Nat):Cop→Prop
 | .acq=>True
 | .len k=>k < n
 | .read k a b=>k < n∧a < 150∧b < 150
 | .rune k b=>k < n∧b < 150
 | .line k b=>k < n∧b < 150
 | .mark k i=>k < n∧0 < i∧i < 7
 | .seek k a=>k < n∧a < 150
 | .next k b=>k < n∧b < 150
 | .rel k=>k < n
theorem Blk.as {w:World} {g:Nat} {t:TypeId} {cs cs':Array Value} (h:Blk w g t cs) (e:cs=cs'):Blk w g t cs':=e ▸ h
structure Rd where
 sb:Nat
 cl:Int
 sl:Value
 op:OpV
 busy:Bool
 ph:Int
 dv:Value
 done:Bool
 rs:RsV
 slot:Int
 pin:Value
 at':Int
 rest:Int
 base:Ms
 tx:Value
 need:Int
 next:Int
def RsV.v (x:RsV):Value:=.agg #[.int .i64 x.er,.int .i64 x.rev,.int .i64 x.sl,.int .i64 x.at',.int .u8 x.g,.string x.s,.int .i64 x.b,.int .i64 x.r,.int .i64 x.l,.int .u8 x.ik,.int .i64 x.fr,.int .i64 x.to,.slice none 0 0]
def RsV.arr (x:RsV):Array Value:=#[.int .i64 x.er,.int .i64 x.rev,.int .i64 x.sl,.int .i64 x.at',.int .u8 x.g,.string x.s,.int .i64 x.b,.int .i64 x.r,.int .i64 x.l,.int .u8 x.ik,.int .i64 x.fr,.int .i64 x.to,.slice none 0 0]
def Rd.cells (r:Rd):Array Value:=#[.pointer (some ⟨r.sb,0,none⟩),.int .i64 r.cl,r.sl,.int .u8 r.op.k,.int .i64 r.op.sl,.int .i64 r.op.at',.int .i64 r.op.n,.int .u32 r.op.id,.int .u8 r.op.g,.string r.op.s,.bool r.busy,.int .u8 r.ph,r.dv,.bool r.done,
 .int .i64 r.rs.er,.int .i64 r.rs.rev,.int .i64 r.rs.sl,.int .i64 r.rs.at',.int .u8 r.rs.g,.string r.rs.s,.int .i64 r.rs.b,.int .i64 r.rs.r,.int .i64 r.rs.l,.int .u8 r.rs.ik,.int .i64 r.rs.fr,.int .i64 r.rs.to,.slice none 0 0,
 .int .i64 r.slot,r.pin,.int .u64 r.at',.int .i64 r.rest,.int .i64 r.base.b,.int .i64 r.base.r,.int .i64 r.base.l,r.tx,.int .i64 r.need,.int .i64 r.next]
def Rd.fin (r:Rd) (x:RsV):Rd:={ r with busy:=false,done:=true,rs:=x,pin:=.pointer none,tx:=.slice none 0 0,ph:=0,dv:=.nilFunc }
def RdSet (g:Nat) (r':Rd) (w:World) (v:Value) (e:Ending) (w':World):Prop:=e=.returned v∧Blk w' g 111 r'.cells∧Ch (fun b=>b=g) w w'
theorem rthen_any (g:Nat) (r:Rd) (ph:Int) (F:FuncId) (c b:Array Value) (w:World) (h:Blk w g 111 r.cells) :
  Calls Tryz.prog 63 #[.pointer (some ⟨g,0,none⟩),.int .u8 ph,.func (.func F) c b] w (RdSet g { r with ph:=ph,dv:=.func (.func F) c b } w (.tuple #[])):=by
 have a11:w.cell? ⟨g,11,none⟩=some (.int .u8 r.ph):=h.cell 11
 have a12:w.cell? ⟨g,12,none⟩=some r.dv:=h.cell 12
 have f11:=h.free 11
 have f12:=h.free 12
 have H:=hid h
 clear h
 go_enter Tryz.func63,Tryz.ntmps63
 go_wp2_with fail
 go_end0
 exact ⟨rfl,Blk.as ((H.out.put 11 _).put 12 _) rfl,((Ch.refl (fun b=>b=g) w).set (fun _=>rfl) _).set (fun _=>rfl) _⟩
theorem rthen_nil (g:Nat) (r:Rd) (ph:Int) (w:World) (h:Blk w g 111 r.cells) :
  Calls Tryz.prog 63 #[.pointer (some ⟨g,0,none⟩),.int .u8 ph,.nilFunc] w (RdSet g { r with ph:=ph,dv:=.nilFunc } w (.tuple #[])):=by
 have a11:w.cell? ⟨g,11,none⟩=some (.int .u8 r.ph):=h.cell 11
 have a12:w.cell? ⟨g,12,none⟩=some r.dv:=h.cell 12
 have f11:=h.free 11
 have f12:=h.free 12
 have H:=hid h
 clear h
 go_enter Tryz.func63,Tryz.ntmps63
 go_wp2_with fail
 go_end0
 exact ⟨rfl,Blk.as ((H.out.put 11 _).put 12 _) rfl,((Ch.refl (fun b=>b=g) w).set (fun _=>rfl) _).set (fun _=>rfl) _⟩
theorem rend_any (g:Nat) (r:Rd) (x:RsV) (w:World) (h:Blk w g 111 r.cells) :
  Calls Tryz.prog 67 #[.pointer (some ⟨g,0,none⟩),x.v] w (RdSet g (r.fin x) w (.int .u64 0)):=by
 have H:=hid h
 have hlt:=h.lt
 clear h
 simp only [RsV.v]
 go_enter Tryz.func67,Tryz.ntmps67
 go_wp2_with fail
 obtain ⟨S,hS⟩:∃S:Nat→Prop,∀k,S k↔k=w.heap.size:=⟨_,fun _=>Iff.rfl⟩
 have hSp:Mix.Has S w.heap.size:=(hS _).2 rfl
 have HSS:=hid hS
 clear hS
 refine Mix.wp_region_mix S (fun i=>([0,1,1,1,1,4,0,0,3,0,0,3,0,0,2,0,0,2,0,0,2]:List Nat).getD i 0) [0,1,2,3,4,5,6,7,8,9,10,11,12,13,14,15,16,17,18,19,20] (by kernel_rfl) (by kernel_rfl) ?_
 refine Mix.mix_world fun W1 hW1=>?_
 have B1:=hid (show Blk W1 g 111 r.cells from by rw [hW1];exact H.out.alloc _)
 have X1:=hid (show Blk W1 w.heap.size 41 x.arr from by rw [hW1];exact Blk.new w _ _)
 have C1:=hid (show Ch (fun b=>b=g) w W1 from by rw [hW1];exact (Ch.refl _ w).alloc _)
 have n1:g≠w.heap.size:=Nat.ne_of_lt hlt
 have n2:w.heap.size≠g:=Ne.symm n1
 have x0:W1.cell? ⟨w.heap.size,0,none⟩=some (.int .i64 x.er):=X1.out.cell 0
 have x1:W1.cell? ⟨w.heap.size,1,none⟩=some (.int .i64 x.rev):=X1.out.cell 1
 have x2:W1.cell? ⟨w.heap.size,2,none⟩=some (.int .i64 x.sl):=X1.out.cell 2
 have x3:W1.cell? ⟨w.heap.size,3,none⟩=some (.int .i64 x.at'):=X1.out.cell 3
 have x4:W1.cell? ⟨w.heap.size,4,none⟩=some (.int .u8 x.g):=X1.out.cell 4
 have x5:W1.cell? ⟨w.heap.size,5,none⟩=some (.string x.s):=X1.out.cell 5
 have x6:W1.cell? ⟨w.heap.size,6,none⟩=some (.int .i64 x.b):=X1.out.cell 6
 have x7:W1.cell? ⟨w.heap.size,7,none⟩=some (.int .i64 x.r):=X1.out.cell 7
 have x8:W1.cell? ⟨w.heap.size,8,none⟩=some (.int .i64 x.l):=X1.out.cell 8
 have x9:W1.cell? ⟨w.heap.size,9,none⟩=some (.int .u8 x.ik):=X1.out.cell 9
 have x10:W1.cell? ⟨w.heap.size,10,none⟩=some (.int .i64 x.fr):=X1.out.cell 10
 have x11:W1.cell? ⟨w.heap.size,11,none⟩=some (.int .i64 x.to):=X1.out.cell 11
 have x12:W1.cell? ⟨w.heap.size,12,none⟩=some (.slice none 0 0):=X1.out.cell 12
 clear hW1
 have a10:W1.cell? ⟨g,10,none⟩=some (.bool r.busy):=B1.out.cell 10
 have a13:W1.cell? ⟨g,13,none⟩=some (.bool r.done):=B1.out.cell 13
 have f10:=B1.out.free 10
 have f13:=B1.out.free 13
 repeat ((first | refine Mix.q1 rfl ?_ | refine Mix.p1 rfl rfl ?_ | refine Mix.s1 rfl rfl ?_);go_big_quiet_step (fail);refine wpQuiet_nil ?_)
 refine Mix.a1 rfl fun W2 hW2=>?_
 obtain ⟨k2,rfl⟩:=hW2
 go_wp2_with fail
 refine ⟨fun k hk=>by rw [(HSS.out k).1 hk];exact (((Ch.refl (fun b=>b=g) W1).drewN k2).set (fun _=>rfl) _).block _ X1.out.lt (Ne.symm n1),?_⟩
 repeat ((first | refine Mix.q1 rfl ?_ | refine Mix.p1 rfl rfl ?_ | refine Mix.s1 rfl rfl ?_);go_big_quiet_step (fail);refine wpQuiet_nil ?_)
 refine Mix.a1 rfl fun W2 hW2=>?_
 obtain ⟨k3,rfl⟩:=hW2
 go_wp2_with fail
 refine ⟨fun k hk=>by rw [(HSS.out k).1 hk];exact (((Ch.refl (fun b=>b=g) ((W1.drewN k2).setCell ⟨g,10,none⟩ (.bool false))).drewN k3).set (fun _=>rfl) _).block _ (((Ch.refl (fun b=>b=g) W1).drewN k2).set (fun _=>rfl) _ |>.blk X1.out (Ne.symm n1)).lt (Ne.symm n1),?_⟩
 refine Mix.mix_world fun W3 hW3=>?_
 have B3:=hid (show Blk W3 g 111 ((r.cells.setIfInBounds 10 (.bool false)).setIfInBounds 13 (.bool true)) from by rw [hW3];exact (((B1.out.drewN k2).put 10 _).drewN k3).put 13 _)
 have C3:=hid (show Ch (fun b=>b=g) w W3 from by rw [hW3];exact (((C1.out.drewN k2).set (fun _=>rfl) _).drewN k3).set (fun _=>rfl) _)
 clear hW3 a10 a13 f10 f13
 have c14:W3.cell? ⟨g,14,none⟩=some (.int .i64 r.rs.er):=B3.out.cell 14
 have c15:W3.cell? ⟨g,15,none⟩=some (.int .i64 r.rs.rev):=B3.out.cell 15
 have c16:W3.cell? ⟨g,16,none⟩=some (.int .i64 r.rs.sl):=B3.out.cell 16
 have c17:W3.cell? ⟨g,17,none⟩=some (.int .i64 r.rs.at'):=B3.out.cell 17
 have c18:W3.cell? ⟨g,18,none⟩=some (.int .u8 r.rs.g):=B3.out.cell 18
 have c19:W3.cell? ⟨g,19,none⟩=some (.string r.rs.s):=B3.out.cell 19
 have c20:W3.cell? ⟨g,20,none⟩=some (.int .i64 r.rs.b):=B3.out.cell 20
 have c21:W3.cell? ⟨g,21,none⟩=some (.int .i64 r.rs.r):=B3.out.cell 21
 have c22:W3.cell? ⟨g,22,none⟩=some (.int .i64 r.rs.l):=B3.out.cell 22
 have c23:W3.cell? ⟨g,23,none⟩=some (.int .u8 r.rs.ik):=B3.out.cell 23
 have c24:W3.cell? ⟨g,24,none⟩=some (.int .i64 r.rs.fr):=B3.out.cell 24
 have c25:W3.cell? ⟨g,25,none⟩=some (.int .i64 r.rs.to):=B3.out.cell 25
 have c26:W3.cell? ⟨g,26,none⟩=some (.slice none 0 0):=B3.out.cell 26
 have f14:=B3.out.free 14
 have f15:=B3.out.free 15
 have f16:=B3.out.free 16
 have f17:=B3.out.free 17
 have f18:=B3.out.free 18
 have f19:=B3.out.free 19
 have f20:=B3.out.free 20
 have f21:=B3.out.free 21
 have f22:=B3.out.free 22
 have f23:=B3.out.free 23
 have f24:=B3.out.free 24
 have f25:=B3.out.free 25
 have f26:=B3.out.free 26
 have c28:W3.cell? ⟨g,28,none⟩=some r.pin:=B3.out.cell 28
 have c34:W3.cell? ⟨g,34,none⟩=some r.tx:=B3.out.cell 34
 have f28:=B3.out.free 28
 have f34:=B3.out.free 34
 repeat ((first | refine Mix.q1 rfl ?_ | refine Mix.p1 rfl rfl ?_ | refine Mix.s1 rfl rfl ?_);go_big_quiet_step (fail);refine wpQuiet_nil ?_)
 refine Mix.e1 rfl fun W4 hW4=>?_
 obtain ⟨k4,rfl⟩:=hW4
 go_wp2_with fail
 repeat ((first | refine Mix.q1 rfl ?_ | refine Mix.p1 rfl rfl ?_ | refine Mix.s1 rfl rfl ?_);go_big_quiet_step (fail);refine wpQuiet_nil ?_)
 refine Mix.e1 rfl fun W4 hW4=>?_
 obtain ⟨k5,rfl⟩:=hW4
 go_wp2_with fail
 repeat ((first | refine Mix.q1 rfl ?_ | refine Mix.p1 rfl rfl ?_ | refine Mix.s1 rfl rfl ?_);go_big_quiet_step (fail);refine wpQuiet_nil ?_)
 refine Mix.e1 rfl fun W4 hW4=>?_
 obtain ⟨k6,rfl⟩:=hW4
 go_wp2_with fail
 intro k7
 go_wp2_with fail
 refine calls_world fun W9 hW9=>?_
 have B9:=hid (show Blk W9 g 111 (Rd.cells { r.fin x with ph:=r.ph,dv:=r.dv }) from by
  rw [hW9]
  exact Blk.as (((((((((((((((((((B3.out.drewN k4).put 14 _).put 15 _).put 16 _).put 17 _).put 18 _).put 19 _).put 20 _).put 21 _).put 22 _).put 23 _).put 24 _).put 25 _).put 26 _).drewN k5).put 28 _).drewN k6).put 34 _).drewN k7) (by kernel_rfl))
 have C9:=hid (show Ch (fun b=>b=g) w W9 from by
  rw [hW9]
  exact (((((((((((((((((((C3.out.drewN k4).set (fun _=>rfl) _).set (fun _=>rfl) _).set (fun _=>rfl) _).set (fun _=>rfl) _).set (fun _=>rfl) _).set (fun _=>rfl) _).set (fun _=>rfl) _).set (fun _=>rfl) _).set (fun _=>rfl) _).set (fun _=>rfl) _).set (fun _=>rfl) _).set (fun _=>rfl) _).set (fun _=>rfl) _).drewN k5).set (fun _=>rfl) _).drewN k6).set (fun _=>rfl) _).drewN k7))
 clear hW9
 refine (rthen_nil g _ 0 W9 B9.out).mono ?_
 rintro e w10 ⟨rfl,hb,hc⟩
 go_wp2_with fail
 go_ret
 exact ⟨rfl,hb,C9.out.trans hc (fun _ _ h=>h)⟩
def locV (rb xb:Nat):Value:=.func (.func 94) #[] #[.pointer (some ⟨rb,0,none⟩),.pointer (some ⟨xb,0,none⟩)]
theorem rlocal_any (g:Nat) (r:Rd) (x:RsV) (w:World) (h:Blk w g 111 r.cells) :
  Calls Tryz.prog 62 #[.pointer (some ⟨g,0,none⟩),x.v] w fun e w'=>∃rb xb,RdSet g { r with ph:=1,dv:=locV rb xb } w (.tuple #[]) e w'∧Blk w' rb 45 #[.pointer (some ⟨g,0,none⟩)]∧Blk w' xb 41 x.arr∧w.heap.size≤rb∧rb < xb:=by
 have H:=hid h
 have hlt:=h.lt
 clear h
 simp only [RsV.v]
 go_enter Tryz.func62,Tryz.ntmps62
 go_wp2_with fail
 refine calls_world fun W1 hW1=>?_
 have B1:=hid (show Blk W1 g 111 r.cells from by rw [hW1];exact (H.out.alloc _).alloc _)
 have R1:=hid (show Blk W1 w.heap.size 45 #[.pointer (some ⟨g,0,none⟩)] from by rw [hW1];exact (Blk.new w _ _).alloc _)
 obtain ⟨xb,hxb⟩:∃q,q=w.heap.size+1:=⟨_,rfl⟩
 have X1:=hid (show Blk W1 xb 41 x.arr from by rw [hW1,hxb];have t:=Blk.new (w.alloc (.cells #[.pointer (some ⟨g,0,none⟩)] 45)) 41 #[.int .i64 x.er,.int .i64 x.rev,.int .i64 x.sl,.int .i64 x.at',.int .u8 x.g,.string x.s,.int .i64 x.b,.int .i64 x.r,.int .i64 x.l,.int .u8 x.ik,.int .i64 x.fr,.int .i64 x.to,.slice none 0 0];simpa [RsV.arr] using t)
 have C1:=hid (show Ch (fun b=>b=g) w W1 from by rw [hW1];exact ((Ch.refl _ w).alloc _).alloc _)
 have hx:w.heap.size < xb:=by omega
 rw [←hxb]
 clear hW1 hxb
 refine (rthen_any g r 1 _ _ _ W1 B1.out).mono ?_
 rintro e w2 ⟨rfl,hb,hc⟩
 go_wp2_with fail
 go_end0
 exact ⟨_,xb,⟨rfl,hb,C1.out.trans hc (fun _ _ h=>h)⟩,hc.blk R1.out (fun e=>by omega),hc.blk X1.out (fun e=>by omega),Nat.le_refl _,hx⟩
theorem rloc_run (g rb xb:Nat) (r:Rd) (x:RsV) (w:World) (h:Blk w g 111 r.cells) (hr:Blk w rb 45 #[.pointer (some ⟨g,0,none⟩)]) (hx:Blk w xb 41 x.arr) :
  Calls Tryz.prog 94 #[.pointer (some ⟨rb,0,none⟩),.pointer (some ⟨xb,0,none⟩)] w (RdSet g (r.fin x) w (.int .u64 0)):=by
 have H:=hid h
 have r0:w.cell? ⟨rb,0,none⟩=some (.pointer (some ⟨g,0,none⟩)):=hr.cell 0
 have x0:w.cell? ⟨xb,0,none⟩=some (.int .i64 x.er):=hx.cell 0
 have x1:w.cell? ⟨xb,1,none⟩=some (.int .i64 x.rev):=hx.cell 1
 have x2:w.cell? ⟨xb,2,none⟩=some (.int .i64 x.sl):=hx.cell 2
 have x3:w.cell? ⟨xb,3,none⟩=some (.int .i64 x.at'):=hx.cell 3
 have x4:w.cell? ⟨xb,4,none⟩=some (.int .u8 x.g):=hx.cell 4
 have x5:w.cell? ⟨xb,5,none⟩=some (.string x.s):=hx.cell 5
 have x6:w.cell? ⟨xb,6,none⟩=some (.int .i64 x.b):=hx.cell 6
 have x7:w.cell? ⟨xb,7,none⟩=some (.int .i64 x.r):=hx.cell 7
 have x8:w.cell? ⟨xb,8,none⟩=some (.int .i64 x.l):=hx.cell 8
 have x9:w.cell? ⟨xb,9,none⟩=some (.int .u8 x.ik):=hx.cell 9
 have x10:w.cell? ⟨xb,10,none⟩=some (.int .i64 x.fr):=hx.cell 10
 have x11:w.cell? ⟨xb,11,none⟩=some (.int .i64 x.to):=hx.cell 11
 have x12:w.cell? ⟨xb,12,none⟩=some (.slice none 0 0):=hx.cell 12
 clear h hr hx
 go_enter Tryz.func94,Tryz.ntmps94
 go_wp2_with fail
 refine (rend_any g r x w H.out).mono ?_
 rintro e w2 ⟨rfl,hb,hc⟩
 go_wp2_with fail
 go_ret
 exact ⟨rfl,hb,hc⟩
theorem rdescend_any (g sg:Nat) (r:Rd) (sc:Array Value) (at' rest:Int) (F:FuncId) (w:World) (h:Blk w g 111 r.cells) (hs:Blk w sg 144 sc) (ha:sc[1]?=some (.int .u64 at')) :
  Calls Tryz.prog 70 #[.pointer (some ⟨g,0,none⟩),.pointer (some ⟨sg,0,none⟩),.int .i64 rest,.func (.func F) #[.pointer (some ⟨g,0,none⟩)] #[]] w (RdSet g { r with ph:=12,dv:=.func (.func F) #[.pointer (some ⟨g,0,none⟩)] #[],at':=at',rest:=rest,base:=⟨0,0,0⟩ } w (.tuple #[])):=by
 have a1:w.cell? ⟨sg,1,none⟩=some (.int .u64 at'):=(hs.cell 1).trans ha
 have c29:w.cell? ⟨g,29,none⟩=some (.int .u64 r.at'):=h.cell 29
 have c30:w.cell? ⟨g,30,none⟩=some (.int .i64 r.rest):=h.cell 30
 have c31:w.cell? ⟨g,31,none⟩=some (.int .i64 r.base.b):=h.cell 31
 have c32:w.cell? ⟨g,32,none⟩=some (.int .i64 r.base.r):=h.cell 32
 have c33:w.cell? ⟨g,33,none⟩=some (.int .i64 r.base.l):=h.cell 33
 have f29:=h.free 29
 have f30:=h.free 30
 have f31:=h.free 31
 have f32:=h.free 32
 have f33:=h.free 33
 have H:=hid h
 clear h hs ha
 go_enter Tryz.func70,Tryz.ntmps70
 go_wp2_with fail
 refine calls_world fun W9 hW9=>?_
 have B9:=hid (show Blk W9 g 111 (Rd.cells { r with at':=at',rest:=rest,base:=⟨0,0,0⟩ }) from by
  rw [hW9]
  exact Blk.as (((((H.out.put 29 _).put 30 _).put 31 _).put 32 _).put 33 _) (by kernel_rfl))
 have C9:=hid (show Ch (fun b=>b=g) w W9 from by
  rw [hW9]
  exact ((((((Ch.refl (fun b=>b=g) w).set (fun _=>rfl) _).set (fun _=>rfl) _).set (fun _=>rfl) _).set (fun _=>rfl) _).set (fun _=>rfl) _))
 clear hW9
 refine (rthen_any g _ 12 F _ _ W9 B9.out).mono ?_
 rintro e w10 ⟨rfl,hb,hc⟩
 go_wp2_with fail
 go_end0
 exact ⟨rfl,hb,C9.out.trans hc (fun _ _ h=>h)⟩
theorem formed_5 (g:Nat) (w:World):Calls Tryz.prog 93 #[.pointer (some ⟨g,0,none⟩),.agg #[.int .u8 5,.int .i64 0,.int .i64 0,.int .i64 0,.int .u32 0,.int .u8 0,.string ⟨#[]⟩]] w fun e w'=>e=.returned (.bool true)∧Ch (fun _=>False) w w':=by
 go_enter Tryz.func93,Tryz.ntmps93
 go_wp2_with fail
 go_ret
 exact ⟨rfl,((Ch.refl _ w).alloc _).alloc _⟩
theorem formed_7 (g lb n:Nat) (r:Rd) (sl pos num:Int) (w:World) (h:Blk w g 111 r.cells) (hs:r.sl=.slice (some ⟨lb,0,none⟩) n n) (h1:0≤sl) (h2:sl < (n:Int)) (h3:0≤pos) (h4:0≤num) :
  Calls Tryz.prog 93 #[.pointer (some ⟨g,0,none⟩),.agg #[.int .u8 7,.int .i64 sl,.int .i64 pos,.int .i64 num,.int .u32 0,.int .u8 0,.string ⟨#[]⟩]] w fun e w'=>e=.returned (.bool true)∧Ch (fun _=>False) w w':=by
 have d1:decide (0≤sl)=true:=decide_eq_true h1
 have d2:decide (sl < (n:Int))=true:=decide_eq_true h2
 have d3:decide (0≤pos)=true:=decide_eq_true h3
 have d4:decide (0≤num)=true:=decide_eq_true h4
 have H:=hid h
 have HS:=hid hs
 have lg:=h.lt
 clear h hs h1 h2 h3 h4
 go_enter Tryz.func93,Tryz.ntmps93
 go_wp2_with fail
 obtain ⟨xb,hxb⟩:∃x,x=w.heap.size+1:=⟨_,rfl⟩
 rw [←hxb]
 have nx:w.heap.size≠xb:=by omega
 have nx2:xb≠w.heap.size:=Ne.symm nx
 obtain ⟨S,hS⟩:∃S:Nat→Prop,∀k,S k↔k=w.heap.size:=⟨_,fun _=>Iff.rfl⟩
 have hSp:Mix.Has S w.heap.size:=(hS _).2 rfl
 have HSS:=hid hS
 have HXB:=hid hxb
 clear hS hxb
 refine Mix.wp_region_mix S (fun i=>([0,0,1,4,0,3,0,2]:List Nat).getD i 0) [0,1,2,3,4,5,6,7] (by kernel_rfl) (by kernel_rfl) ?_
 refine Mix.mix_world fun W1 hW1=>?_
 have T1:=hid (show Blk W1 w.heap.size 26 #[.int .u8 7,.int .i64 sl,.int .i64 pos,.int .i64 num,.int .u32 0,.int .u8 0,.string ⟨#[]⟩] from by rw [hW1];exact (Blk.new w _ _).alloc _)
 have X1:=hid (show Blk W1 xb 26 #[.int .u8 7,.int .i64 0,.int .i64 0,.int .i64 0,.int .u32 0,.int .u8 0,.string ⟨#[]⟩] from by rw [hW1,HXB.out];have t:=Blk.new (w.alloc (.cells #[.int .u8 7,.int .i64 sl,.int .i64 pos,.int .i64 num,.int .u32 0,.int .u8 0,.string ⟨#[]⟩] 26)) 26 #[.int .u8 7,.int .i64 0,.int .i64 0,.int .i64 0,.int .u32 0,.int .u8 0,.string ⟨#[]⟩];simpa using t)
 have C1:=hid (show Ch (fun _=>False) w W1 from by rw [hW1];exact ((Ch.refl _ w).alloc _).alloc _)
 clear hW1
 have t2:W1.cell? ⟨w.heap.size,2,none⟩=some (.int .i64 pos):=T1.out.cell 2
 have t3:W1.cell? ⟨w.heap.size,3,none⟩=some (.int .i64 num):=T1.out.cell 3
 have x2:W1.cell? ⟨xb,2,none⟩=some (.int .i64 0):=X1.out.cell 2
 have y2:=X1.out.free 2
 have x3:W1.cell? ⟨xb,3,none⟩=some (.int .i64 0):=X1.out.cell 3
 have y3:=X1.out.free 3
 repeat ((first | refine Mix.q1 rfl ?_ | refine Mix.p1 rfl rfl ?_ | refine Mix.s1 rfl rfl ?_);go_big_quiet_step (fail);refine wpQuiet_nil ?_)
 refine Mix.a1 rfl fun W2 hW2=>?_
 obtain ⟨k2,rfl⟩:=hW2
 go_wp2_with fail
 refine ⟨fun k hk=>by rw [(HSS.out k).1 hk];exact (((Ch.refl (fun b=>b=xb) W1).drewN k2).set (fun _=>rfl) _).block _ T1.out.lt nx,?_⟩
 repeat ((first | refine Mix.q1 rfl ?_ | refine Mix.p1 rfl rfl ?_ | refine Mix.s1 rfl rfl ?_);go_big_quiet_step (fail);refine wpQuiet_nil ?_)
 refine Mix.e1 rfl fun W3 hW3=>?_
 obtain ⟨k3,rfl⟩:=hW3
 go_wp2_with fail
 intro k4
 refine at_world fun W4 hW4=>?_
 have T4:=hid (show Blk W4 w.heap.size 26 #[.int .u8 7,.int .i64 sl,.int .i64 pos,.int .i64 num,.int .u32 0,.int .u8 0,.string ⟨#[]⟩] from by rw [hW4];exact ((((T1.out.drewN k2).far nx _).drewN k3).far nx _).drewN k4)
 have X4:=hid (show Blk W4 xb 26 #[.int .u8 7,.int .i64 0,.int .i64 pos,.int .i64 num,.int .u32 0,.int .u8 0,.string ⟨#[]⟩] from by rw [hW4];exact ((((X1.out.drewN k2).put 2 _).drewN k3).put 3 _).drewN k4)
 have C4:=hid (show Ch (fun _=>False) w W4 from by rw [hW4];exact ((((C1.out.drewN k2).set (fun h=>absurd h (by have:=HXB.out;omega)) _).drewN k3).set (fun h=>absurd h (by have:=HXB.out;omega)) _).drewN k4)
 clear hW4 t2 t3 x2 x3 y2 y3
 have t1:W4.cell? ⟨w.heap.size,1,none⟩=some (.int .i64 sl):=T4.out.cell 1
 have x1:W4.cell? ⟨xb,1,none⟩=some (.int .i64 0):=X4.out.cell 1
 have y1:=X4.out.free 1
 go_wp2_with fail
 refine at_world fun W5 hW5=>?_
 have T5:=hid (show Blk W5 w.heap.size 26 #[.int .u8 7,.int .i64 sl,.int .i64 pos,.int .i64 num,.int .u32 0,.int .u8 0,.string ⟨#[]⟩] from by rw [hW5];exact T4.out.far nx _)
 have X5:=hid (show Blk W5 xb 26 #[.int .u8 7,.int .i64 sl,.int .i64 pos,.int .i64 num,.int .u32 0,.int .u8 0,.string ⟨#[]⟩] from by rw [hW5];exact X4.out.put 1 _)
 have C5:=hid (show Ch (fun _=>False) w W5 from by rw [hW5];exact C4.out.set (fun h=>absurd h (by have:=HXB.out;omega)) _)
 clear hW5 t1 x1 y1
 have t0:W5.cell? ⟨w.heap.size,0,none⟩=some (.int .u8 7):=T5.out.cell 0
 have x0:W5.cell? ⟨xb,0,none⟩=some (.int .u8 7):=X5.out.cell 0
 have t1:W5.cell? ⟨w.heap.size,1,none⟩=some (.int .i64 sl):=T5.out.cell 1
 have x1:W5.cell? ⟨xb,1,none⟩=some (.int .i64 sl):=X5.out.cell 1
 have t2:W5.cell? ⟨w.heap.size,2,none⟩=some (.int .i64 pos):=T5.out.cell 2
 have x2:W5.cell? ⟨xb,2,none⟩=some (.int .i64 pos):=X5.out.cell 2
 have t3:W5.cell? ⟨w.heap.size,3,none⟩=some (.int .i64 num):=T5.out.cell 3
 have x3:W5.cell? ⟨xb,3,none⟩=some (.int .i64 num):=X5.out.cell 3
 have t4:W5.cell? ⟨w.heap.size,4,none⟩=some (.int .u32 0):=T5.out.cell 4
 have x4:W5.cell? ⟨xb,4,none⟩=some (.int .u32 0):=X5.out.cell 4
 have t5:W5.cell? ⟨w.heap.size,5,none⟩=some (.int .u8 0):=T5.out.cell 5
 have x5:W5.cell? ⟨xb,5,none⟩=some (.int .u8 0):=X5.out.cell 5
 have t6:W5.cell? ⟨w.heap.size,6,none⟩=some (.string ⟨#[]⟩):=T5.out.cell 6
 have x6:W5.cell? ⟨xb,6,none⟩=some (.string ⟨#[]⟩):=X5.out.cell 6
 have a2:W5.cell? ⟨g,2,none⟩=some (.slice (some ⟨lb,0,none⟩) n n):=((C5.out.blk H.out (fun e=>e)).cell 2).trans (by rw [←HS.out];rfl)
 refine Mix.wp_region_mix (fun _=>True) (fun i=>([0,0,0,0,0,0,0,0,0,0,0,0,0,0,0,0,0,0,0,0,0,0,0,0,0,0,0,0,0,0,0,0]:List Nat).getD i 0) [0,1,2,3,4,5,6,7,8,9,10,11,12,13,14,15,16,17,18,19,20,21,22,23,24,25,26,27,28,29,30,31] (by kernel_rfl) (by kernel_rfl) ?_
 repeat ((first | refine Mix.q1 rfl ?_ | refine Mix.p1 rfl rfl ?_ | refine Mix.s1 rfl rfl ?_);go_big_quiet_step (fail);refine wpQuiet_nil ?_)
 intro k6
 go_wp2_with fail
 go_ret
 exact ⟨rfl,C5.out.drewN k6⟩
theorem formed_10 (g lb n:Nat) (r:Rd) (sl id:Int) (w:World) (h:Blk w g 111 r.cells) (hs:r.sl=.slice (some ⟨lb,0,none⟩) n n) (h1:0≤sl) (h2:sl < (n:Int)) (h5:id≠0) :
  Calls Tryz.prog 93 #[.pointer (some ⟨g,0,none⟩),.agg #[.int .u8 10,.int .i64 sl,.int .i64 0,.int .i64 0,.int .u32 id,.int .u8 0,.string ⟨#[]⟩]] w fun e w'=>e=.returned (.bool true)∧Ch (fun _=>False) w w':=by
 have d1:decide (0≤sl)=true:=decide_eq_true h1
 have d2:decide (sl < (n:Int))=true:=decide_eq_true h2
 have d5:(id != 0)=true:=by rw [bne_iff_ne];exact h5
 have H:=hid h
 have HS:=hid hs
 have lg:=h.lt
 clear h hs h1 h2 h5
 go_enter Tryz.func93,Tryz.ntmps93
 go_wp2_with fail
 obtain ⟨xb,hxb⟩:∃x,x=w.heap.size+1:=⟨_,rfl⟩
 rw [←hxb]
 have nx:w.heap.size≠xb:=by omega
 have nx2:xb≠w.heap.size:=Ne.symm nx
 obtain ⟨S,hS⟩:∃S:Nat→Prop,∀k,S k↔k=w.heap.size:=⟨_,fun _=>Iff.rfl⟩
 have hSp:Mix.Has S w.heap.size:=(hS _).2 rfl
 have HSS:=hid hS
 have HXB:=hid hxb
 clear hS hxb
 refine Mix.wp_region_mix S (fun i=>([0,0,1,4,1,0,3,0]:List Nat).getD i 0) [0,1,2,3,4,5,6,7] (by kernel_rfl) (by kernel_rfl) ?_
 refine Mix.mix_world fun W1 hW1=>?_
 have T1:=hid (show Blk W1 w.heap.size 26 #[.int .u8 10,.int .i64 sl,.int .i64 0,.int .i64 0,.int .u32 id,.int .u8 0,.string ⟨#[]⟩] from by rw [hW1];exact (Blk.new w _ _).alloc _)
 have X1:=hid (show Blk W1 xb 26 #[.int .u8 10,.int .i64 0,.int .i64 0,.int .i64 0,.int .u32 0,.int .u8 0,.string ⟨#[]⟩] from by rw [hW1,HXB.out];have t:=Blk.new (w.alloc (.cells #[.int .u8 10,.int .i64 sl,.int .i64 0,.int .i64 0,.int .u32 id,.int .u8 0,.string ⟨#[]⟩] 26)) 26 #[.int .u8 10,.int .i64 0,.int .i64 0,.int .i64 0,.int .u32 0,.int .u8 0,.string ⟨#[]⟩];simpa using t)
 have C1:=hid (show Ch (fun _=>False) w W1 from by rw [hW1];exact ((Ch.refl _ w).alloc _).alloc _)
 clear hW1
 have t4:W1.cell? ⟨w.heap.size,4,none⟩=some (.int .u32 id):=T1.out.cell 4
 have x4:W1.cell? ⟨xb,4,none⟩=some (.int .u32 0):=X1.out.cell 4
 have y4:=X1.out.free 4
 repeat ((first | refine Mix.q1 rfl ?_ | refine Mix.p1 rfl rfl ?_ | refine Mix.s1 rfl rfl ?_);go_big_quiet_step (fail);refine wpQuiet_nil ?_)
 refine Mix.a1 rfl fun W2 hW2=>?_
 obtain ⟨k2,rfl⟩:=hW2
 go_wp2_with fail
 refine ⟨fun k hk=>by rw [(HSS.out k).1 hk];exact (((Ch.refl (fun b=>b=xb) W1).drewN k2).set (fun _=>rfl) _).block _ T1.out.lt nx,?_⟩
 repeat ((first | refine Mix.q1 rfl ?_ | refine Mix.p1 rfl rfl ?_ | refine Mix.s1 rfl rfl ?_);go_big_quiet_step (fail);refine wpQuiet_nil ?_)
 intro k4
 refine at_world fun W4 hW4=>?_
 have T4:=hid (show Blk W4 w.heap.size 26 #[.int .u8 10,.int .i64 sl,.int .i64 0,.int .i64 0,.int .u32 id,.int .u8 0,.string ⟨#[]⟩] from by rw [hW4];exact ((T1.out.drewN k2).far nx _).drewN k4)
 have X4:=hid (show Blk W4 xb 26 #[.int .u8 10,.int .i64 0,.int .i64 0,.int .i64 0,.int .u32 id,.int .u8 0,.string ⟨#[]⟩] from by rw [hW4];exact ((X1.out.drewN k2).put 4 _).drewN k4)
 have C4:=hid (show Ch (fun _=>False) w W4 from by rw [hW4];exact ((C1.out.drewN k2).set (fun h=>absurd h (by have:=HXB.out;omega)) _).drewN k4)
 clear hW4 t4 x4 y4
 have t1:W4.cell? ⟨w.heap.size,1,none⟩=some (.int .i64 sl):=T4.out.cell 1
 have x1:W4.cell? ⟨xb,1,none⟩=some (.int .i64 0):=X4.out.cell 1
 have y1:=X4.out.free 1
 go_wp2_with fail
 refine at_world fun W5 hW5=>?_
 have T5:=hid (show Blk W5 w.heap.size 26 #[.int .u8 10,.int .i64 sl,.int .i64 0,.int .i64 0,.int .u32 id,.int .u8 0,.string ⟨#[]⟩] from by rw [hW5];exact T4.out.far nx _)
 have X5:=hid (show Blk W5 xb 26 #[.int .u8 10,.int .i64 sl,.int .i64 0,.int .i64 0,.int .u32 id,.int .u8 0,.string ⟨#[]⟩] from by rw [hW5];exact X4.out.put 1 _)
 have C5:=hid (show Ch (fun _=>False) w W5 from by rw [hW5];exact C4.out.set (fun h=>absurd h (by have:=HXB.out;omega)) _)
 clear hW5 t1 x1 y1
 have t0:W5.cell? ⟨w.heap.size,0,none⟩=some (.int .u8 10):=T5.out.cell 0
 have x0:W5.cell? ⟨xb,0,none⟩=some (.int .u8 10):=X5.out.cell 0
 have t1:W5.cell? ⟨w.heap.size,1,none⟩=some (.int .i64 sl):=T5.out.cell 1
 have x1:W5.cell? ⟨xb,1,none⟩=some (.int .i64 sl):=X5.out.cell 1
 have t2:W5.cell? ⟨w.heap.size,2,none⟩=some (.int .i64 0):=T5.out.cell 2
 have x2:W5.cell? ⟨xb,2,none⟩=some (.int .i64 0):=X5.out.cell 2
 have t3:W5.cell? ⟨w.heap.size,3,none⟩=some (.int .i64 0):=T5.out.cell 3
 have x3:W5.cell? ⟨xb,3,none⟩=some (.int .i64 0):=X5.out.cell 3
 have t4:W5.cell? ⟨w.heap.size,4,none⟩=some (.int .u32 id):=T5.out.cell 4
 have x4:W5.cell? ⟨xb,4,none⟩=some (.int .u32 id):=X5.out.cell 4
 have t5:W5.cell? ⟨w.heap.size,5,none⟩=some (.int .u8 0):=T5.out.cell 5
 have x5:W5.cell? ⟨xb,5,none⟩=some (.int .u8 0):=X5.out.cell 5
 have t6:W5.cell? ⟨w.heap.size,6,none⟩=some (.string ⟨#[]⟩):=T5.out.cell 6
 have x6:W5.cell? ⟨xb,6,none⟩=some (.string ⟨#[]⟩):=X5.out.cell 6
 have a2:W5.cell? ⟨g,2,none⟩=some (.slice (some ⟨lb,0,none⟩) n n):=((C5.out.blk H.out (fun e=>e)).cell 2).trans (by rw [←HS.out];rfl)
 refine Mix.wp_region_mix (fun _=>True) (fun i=>([0,0,0,0,0,0,0,0,0,0,0,0,0,0,0,0,0,0,0,0,0,0,0,0,0,0,0,0,0,0,0,0]:List Nat).getD i 0) [0,1,2,3,4,5,6,7,8,9,10,11,12,13,14,15,16,17,18,19,20,21,22,23,24,25,26,27,28,29,30,31] (by kernel_rfl) (by kernel_rfl) ?_
 repeat ((first | refine Mix.q1 rfl ?_ | refine Mix.p1 rfl rfl ?_ | refine Mix.s1 rfl rfl ?_);go_big_quiet_step (fail);refine wpQuiet_nil ?_)
 intro k6
 go_wp2_with fail
 go_ret
 exact ⟨rfl,C5.out.drewN k6⟩
theorem formed_s (g lb n:Nat) (r:Rd) (k sl pos num:Int) (w:World) (h:Blk w g 111 r.cells) (hs:r.sl=.slice (some ⟨lb,0,none⟩) n n) (hk:(k=6∧pos=0∧num=0)∨(k=13∧pos=0∧num=0)∨(k=8∧pos=0)∨(k=9∧pos=0)∨(k=12∧pos=0)∨(k=11∧num=0)) (h1:0≤sl) (h2:sl < (n:Int)) (h3:0≤pos) (h4:0≤num) :
  Calls Tryz.prog 93 #[.pointer (some ⟨g,0,none⟩),.agg #[.int .u8 k,.int .i64 sl,.int .i64 pos,.int .i64 num,.int .u32 0,.int .u8 0,.string ⟨#[]⟩]] w fun e w'=>e=.returned (.bool true)∧Ch (fun _=>False) w w':=by
 have d1:decide (0≤sl)=true:=decide_eq_true h1
 have d2:decide (sl < (n:Int))=true:=decide_eq_true h2
 have d3:decide (0≤pos)=true:=decide_eq_true h3
 have d4:decide (0≤num)=true:=decide_eq_true h4
 have H:=hid h
 have HS:=hid hs
 have lg:=h.lt
 clear h hs h1 h2 h3 h4
 obtain ⟨C,hC⟩:∃C:Array Value,C=#[.int .u8 k,.int .i64 sl,.int .i64 pos,.int .i64 num,.int .u32 0,.int .u8 0,.string ⟨#[]⟩]:=⟨_,rfl⟩
 have HC:=hid hC
 clear hC
 rcases hk with ⟨rfl,rfl,rfl⟩ | ⟨rfl,rfl,rfl⟩ | ⟨rfl,rfl⟩ | ⟨rfl,rfl⟩ | ⟨rfl,rfl⟩ | ⟨rfl,rfl⟩
 all_goals
  go_enter Tryz.func93,Tryz.ntmps93
  go_wp2_with fail
  obtain ⟨xb,hxb⟩:∃x,x=w.heap.size+1:=⟨_,rfl⟩
  rw [←hxb]
  have nx:w.heap.size≠xb:=by omega
  have nx2:xb≠w.heap.size:=Ne.symm nx
  refine at_world fun W5 hW5=>?_
  have T5:Blk W5 w.heap.size 26 C:=by
   rw [hW5,HC.out]
   exact (Blk.new w 26 _).alloc _
  have X5:Blk W5 xb 26 C:=by
   rw [hW5,hxb]
   have t:=Blk.new (w.alloc (.cells C 26)) 26 C
   rw [HC.out] at t ⊢
   simpa using t
  have C5:=hid (show Ch (fun _=>False) w W5 from by rw [hW5];exact ((Ch.refl (fun _=>False) w).alloc _).alloc _)
  clear hW5 hxb
  rw [HC.out] at T5 X5
  have t0:W5.cell? ⟨w.heap.size,0,none⟩=some (_):=T5.cell 0
  have x0:W5.cell? ⟨xb,0,none⟩=some (_):=X5.cell 0
  have t1:W5.cell? ⟨w.heap.size,1,none⟩=some (_):=T5.cell 1
  have x1:W5.cell? ⟨xb,1,none⟩=some (_):=X5.cell 1
  have t2:W5.cell? ⟨w.heap.size,2,none⟩=some (_):=T5.cell 2
  have x2:W5.cell? ⟨xb,2,none⟩=some (_):=X5.cell 2
  have t3:W5.cell? ⟨w.heap.size,3,none⟩=some (_):=T5.cell 3
  have x3:W5.cell? ⟨xb,3,none⟩=some (_):=X5.cell 3
  have t4:W5.cell? ⟨w.heap.size,4,none⟩=some (_):=T5.cell 4
  have x4:W5.cell? ⟨xb,4,none⟩=some (_):=X5.cell 4
  have t5:W5.cell? ⟨w.heap.size,5,none⟩=some (_):=T5.cell 5
  have x5:W5.cell? ⟨xb,5,none⟩=some (_):=X5.cell 5
  have t6:W5.cell? ⟨w.heap.size,6,none⟩=some (_):=T5.cell 6
  have x6:W5.cell? ⟨xb,6,none⟩=some (_):=X5.cell 6
  clear T5 X5
  have a2:W5.cell? ⟨g,2,none⟩=some (.slice (some ⟨lb,0,none⟩) n n):=((C5.out.blk H.out (fun e=>e)).cell 2).trans (by rw [←HS.out];rfl)
  refine Mix.wp_region_mix (fun _=>True) (fun i=>([0,0,0,0,0,0,0,0,0,0,0,0,0,0,0,0,0,0,0,0,0,0,0,0,0,0,0,0,0,0,0,0]:List Nat).getD i 0) [0,1,2,3,4,5,6,7,8,9,10,11,12,13,14,15,16,17,18,19,20,21,22,23,24,25,26,27,28,29,30,31] (by kernel_rfl) (by kernel_rfl) ?_
  repeat ((first | refine Mix.q1 rfl ?_ | refine Mix.p1 rfl rfl ?_ | refine Mix.s1 rfl rfl ?_);go_big_quiet_step (fail);refine wpQuiet_nil ?_)
  intro k6
  go_wp2_with fail
  go_ret
  exact ⟨rfl,C5.out.drewN k6⟩
end Go.Proofs.YtjcdknhejcbpiaaGreat
