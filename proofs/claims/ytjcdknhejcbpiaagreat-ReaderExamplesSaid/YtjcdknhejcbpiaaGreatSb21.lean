/- Lemmas; no condition. -/
import Derived.Test.YtjcdknhejcbpiaaGreatSb20
import Derived.Laws.EntriesVeiled
set_option maxRecDepth 100000
set_option maxHeartbeats 1000000
namespace Go.Proofs.YtjcdknhejcbpiaaGreat
open Go.RowKit
set_option linter.unusedVariables false
set_option linter.unusedSimpArgs false
set_option linter.unusedSectionVars false
def OpV.v (x:OpV):Value:=.agg #[.int .u8 x.k,.int .i64 x.sl,.int .i64 x.at',.int .i64 x.n,.int .u32 x.id,.int .u8 x.g,.string x.s]
def acqOp:OpV:=⟨5,0,0,0,0,0,⟨#[]⟩⟩
inductive Cop
 | acq
 | len (k:Nat)
 | read (k a b:Nat)
 | rune (k b:Nat)
 | line (k b:Nat)
 | mark (k:Nat) (i:Int)
 | seek (k a:Nat)
 | next (k b:Nat)
 | rel (k:Nat)
def Cop.op:Cop->OpV
 | .acq=>acqOp
 | .len k=>⟨6,k,0,0,0,0,⟨#[]⟩⟩
 | .read k a b=>⟨7,k,a,b,0,0,⟨#[]⟩⟩
 | .rune k b=>⟨8,k,0,b,0,0,⟨#[]⟩⟩
 | .line k b=>⟨9,k,0,b,0,0,⟨#[]⟩⟩
 | .mark k i=>⟨10,k,0,0,i,0,⟨#[]⟩⟩
 | .seek k a=>⟨11,k,a,0,0,0,⟨#[]⟩⟩
 | .next k b=>⟨12,k,0,b,0,0,⟨#[]⟩⟩
 | .rel k=>⟨13,k,0,0,0,0,⟨#[]⟩⟩
def Cop.slot:Cop->Nat
 | .acq=>0
 | .len k=>k
 | .read k _ _=>k
 | .rune k _=>k
 | .line k _=>k
 | .mark k _=>k
 | .seek k _=>k
 | .next k _=>k
 | .rel k=>k
def Cop.small (n:Nat):Cop->Prop
 | .acq=>True
 | .len k=>k < n
 | .read k a b=>k < n/\a < 150/\b < 150
 | .rune k b=>k < n/\b < 150
 | .line k b=>k < n/\b < 150
 | .mark k i=>k < n/\0 < i/\i < 7
 | .seek k a=>k < n/\a < 150
 | .next k b=>k < n/\b < 150
 | .rel k=>k < n
theorem Blk.as {w:World} {g:Nat} {t:TypeId} {cs cs':Array Value} (h:Blk w g t cs) (e:cs=cs'):Blk w g t cs':=e ▸ h
structure Rd where
 sb:Nat
 cl:Int
 sl:Value
 op:OpV
 busy:Bool
 ph:Int
 dv:Value
 done:Bool
 rs:RsV
 slot:Int
 pin:Value
 at':Int
 rest:Int
 base:Ms
 tx:Value
 need:Int
 next:Int
def RsV.v (x:RsV):Value:=.agg #[.int .i64 x.er,.int .i64 x.rev,.int .i64 x.sl,.int .i64 x.at',.int .u8 x.g,.string x.s,.int .i64 x.b,.int .i64 x.r,.int .i64 x.l,.int .u8 x.ik,.int .i64 x.fr,.int .i64 x.to,.slice none 0 0]
def RsV.arr (x:RsV):Array Value:=#[.int .i64 x.er,.int .i64 x.rev,.int .i64 x.sl,.int .i64 x.at',.int .u8 x.g,.string x.s,.int .i64 x.b,.int .i64 x.r,.int .i64 x.l,.int .u8 x.ik,.int .i64 x.fr,.int .i64 x.to,.slice none 0 0]
def Rd.cells (r:Rd):Array Value:=#[.pointer (some ⟨r.sb,0,none⟩),.int .i64 r.cl,r.sl,.int .u8 r.op.k,.int .i64 r.op.sl,.int .i64 r.op.at',.int .i64 r.op.n,.int .u32 r.op.id,.int .u8 r.op.g,.string r.op.s,.bool r.busy,.int .u8 r.ph,r.dv,.bool r.done,
 .int .i64 r.rs.er,.int .i64 r.rs.rev,.int .i64 r.rs.sl,.int .i64 r.rs.at',.int .u8 r.rs.g,.string r.rs.s,.int .i64 r.rs.b,.int .i64 r.rs.r,.int .i64 r.rs.l,.int .u8 r.rs.ik,.int .i64 r.rs.fr,.int .i64 r.rs.to,.slice none 0 0,
 .int .i64 r.slot,r.pin,.int .u64 r.at',.int .i64 r.rest,.int .i64 r.base.b,.int .i64 r.base.r,.int .i64 r.base.l,r.tx,.int .i64 r.need,.int .i64 r.next]
def Rd.fin (r:Rd) (x:RsV):Rd:={ r with busy:=false,done:=true,rs:=x,pin:=.pointer none,tx:=.slice none 0 0,ph:=0,dv:=.nilFunc }
def RdSet (g:Nat) (r':Rd) (w:World) (v:Value) (e:Ending) (w':World):Prop:=e=.returned v/\Blk w' g 111 r'.cells/\Ch (fun b=>b=g) w w'
theorem rthen_any (g:Nat) (r:Rd) (ph:Int) (F:FuncId) (c b:Array Value) (w:World) (h:Blk w g 111 r.cells) :
  Calls Tryz.prog 63 #[.pointer (some ⟨g,0,none⟩),.int .u8 ph,.func (.func F) c b] w (RdSet g { r with ph:=ph,dv:=.func (.func F) c b } w (.tuple #[])):=by
 have a11:w.cell? ⟨g,11,none⟩=some (.int .u8 r.ph):=h.cell 11
 have a12:w.cell? ⟨g,12,none⟩=some r.dv:=h.cell 12
 have f11:=h.free 11
 have f12:=h.free 12
 have H:=hid h
 clear h
 go_enter Tryz.func63,Tryz.ntmps63
 go_wp2_with fail
 go_end0
 exact ⟨rfl,Blk.as ((H.out.put 11 _).put 12 _) rfl,((Ch.refl (fun b=>b=g) w).set (fun _=>rfl) _).set (fun _=>rfl) _⟩
theorem rthen_nil (g:Nat) (r:Rd) (ph:Int) (w:World) (h:Blk w g 111 r.cells) :
  Calls Tryz.prog 63 #[.pointer (some ⟨g,0,none⟩),.int .u8 ph,.nilFunc] w (RdSet g { r with ph:=ph,dv:=.nilFunc } w (.tuple #[])):=by
 have a11:w.cell? ⟨g,11,none⟩=some (.int .u8 r.ph):=h.cell 11
 have a12:w.cell? ⟨g,12,none⟩=some r.dv:=h.cell 12
 have f11:=h.free 11
 have f12:=h.free 12
 have H:=hid h
 clear h
 go_enter Tryz.func63,Tryz.ntmps63
 go_wp2_with fail
 go_end0
 exact ⟨rfl,Blk.as ((H.out.put 11 _).put 12 _) rfl,((Ch.refl (fun b=>b=g) w).set (fun _=>rfl) _).set (fun _=>rfl) _⟩
theorem rend_any (g:Nat) (r:Rd) (x:RsV) (w:World) (h:Blk w g 111 r.cells) :
  Calls Tryz.prog 67 #[.pointer (some ⟨g,0,none⟩),x.v] w (RdSet g (r.fin x) w (.int .u64 0)):=by
 have H:=hid h
 have hlt:=h.lt
 clear h
 simp only [RsV.v]
 go_enter Tryz.func67,Tryz.ntmps67
 go_wp2_with fail
 obtain ⟨S,hS⟩:∃S:Nat->Prop,∀k,S k↔k=w.heap.size:=⟨_,fun _=>Iff.rfl⟩
 have hSp:Mix.Has S w.heap.size:=(hS _).2 rfl
 have HSS:=hid hS
 clear hS
 refine Mix.rg S [0,1,1,1,1,4,0,0,3,0,0,3,0,0,2,0,0,2,0,0,2] [0,1,2,3,4,5,6,7,8,9,10,11,12,13,14,15,16,17,18,19,20] ?_
 refine Mix.mix_world fun W1 hW1=>?_
 have B1:=hid (show Blk W1 g 111 r.cells from by rw [hW1];exact H.out.alloc _)
 have X1:=hid (show Blk W1 w.heap.size 41 x.arr from by rw [hW1];exact Blk.new w _ _)
 have C1:=hid (show Ch (fun b=>b=g) w W1 from by rw [hW1];exact (Ch.refl _ w).alloc _)
 have n1:g≠w.heap.size:=Nat.ne_of_lt hlt
 have n2:w.heap.size≠g:=Ne.symm n1
 obtain ⟨x0,x1,x2,x3,x4,x5,x6,x7,x8,x9,x10,x11,x12⟩:=X1.out.c13
 clear hW1
 obtain ⟨-,-,-,-,-,-,-,-,-,-,a10,-,-,a13⟩:=B1.out.c14
 have f10:=B1.out.free 10
 have f13:=B1.out.free 13
 repeat ((first | refine Mix.zq ?_ | refine Mix.zp ?_ | refine Mix.zs ?_);go_big_quiet_step (fail);refine wpQuiet_nil ?_)
 refine Mix.za fun W2 hW2=>?_
 obtain ⟨k2,rfl⟩:=hW2
 go_wp2_with fail
 refine ⟨fun k hk=>by rw [(HSS.out k).1 hk];exact (((Ch.refl (fun b=>b=g) W1).drewN k2).set (fun _=>rfl) _).block _ X1.out.lt (Ne.symm n1),?_⟩
 repeat ((first | refine Mix.zq ?_ | refine Mix.zp ?_ | refine Mix.zs ?_);go_big_quiet_step (fail);refine wpQuiet_nil ?_)
 refine Mix.za fun W2 hW2=>?_
 obtain ⟨k3,rfl⟩:=hW2
 go_wp2_with fail
 refine ⟨fun k hk=>by rw [(HSS.out k).1 hk];exact (((Ch.refl (fun b=>b=g) ((W1.drewN k2).setCell ⟨g,10,none⟩ (.bool false))).drewN k3).set (fun _=>rfl) _).block _ (((Ch.refl (fun b=>b=g) W1).drewN k2).set (fun _=>rfl) _ |>.blk X1.out (Ne.symm n1)).lt (Ne.symm n1),?_⟩
 refine Mix.mix_world fun W3 hW3=>?_
 have B3:=hid (show Blk W3 g 111 ((r.cells.setIfInBounds 10 (.bool false)).setIfInBounds 13 (.bool true)) from by rw [hW3];exact (((B1.out.drewN k2).put 10 _).drewN k3).put 13 _)
 have C3:=hid (show Ch (fun b=>b=g) w W3 from by rw [hW3];exact (((C1.out.drewN k2).set (fun _=>rfl) _).drewN k3).set (fun _=>rfl) _)
 clear hW3 a10 a13 f10 f13
 have c14:W3.cell? ⟨g,14,none⟩=some (.int .i64 r.rs.er):=B3.out.cell 14
 have c15:W3.cell? ⟨g,15,none⟩=some (.int .i64 r.rs.rev):=B3.out.cell 15
 have c16:W3.cell? ⟨g,16,none⟩=some (.int .i64 r.rs.sl):=B3.out.cell 16
 have c17:W3.cell? ⟨g,17,none⟩=some (.int .i64 r.rs.at'):=B3.out.cell 17
 have c18:W3.cell? ⟨g,18,none⟩=some (.int .u8 r.rs.g):=B3.out.cell 18
 have c19:W3.cell? ⟨g,19,none⟩=some (.string r.rs.s):=B3.out.cell 19
 have c20:W3.cell? ⟨g,20,none⟩=some (.int .i64 r.rs.b):=B3.out.cell 20
 have c21:W3.cell? ⟨g,21,none⟩=some (.int .i64 r.rs.r):=B3.out.cell 21
 have c22:W3.cell? ⟨g,22,none⟩=some (.int .i64 r.rs.l):=B3.out.cell 22
 have c23:W3.cell? ⟨g,23,none⟩=some (.int .u8 r.rs.ik):=B3.out.cell 23
 have c24:W3.cell? ⟨g,24,none⟩=some (.int .i64 r.rs.fr):=B3.out.cell 24
 have c25:W3.cell? ⟨g,25,none⟩=some (.int .i64 r.rs.to):=B3.out.cell 25
 have c26:W3.cell? ⟨g,26,none⟩=some (.slice none 0 0):=B3.out.cell 26
 have f14:=B3.out.free 14
 have f15:=B3.out.free 15
 have f16:=B3.out.free 16
 have f17:=B3.out.free 17
 have f18:=B3.out.free 18
 have f19:=B3.out.free 19
 have f20:=B3.out.free 20
 have f21:=B3.out.free 21
 have f22:=B3.out.free 22
 have f23:=B3.out.free 23
 have f24:=B3.out.free 24
 have f25:=B3.out.free 25
 have f26:=B3.out.free 26
 have c28:W3.cell? ⟨g,28,none⟩=some r.pin:=B3.out.cell 28
 have c34:W3.cell? ⟨g,34,none⟩=some r.tx:=B3.out.cell 34
 have f28:=B3.out.free 28
 have f34:=B3.out.free 34
 repeat ((first | refine Mix.zq ?_ | refine Mix.zp ?_ | refine Mix.zs ?_);go_big_quiet_step (fail);refine wpQuiet_nil ?_)
 refine Mix.ze fun W4 hW4=>?_
 obtain ⟨k4,rfl⟩:=hW4
 go_wp2_with fail
 repeat ((first | refine Mix.zq ?_ | refine Mix.zp ?_ | refine Mix.zs ?_);go_big_quiet_step (fail);refine wpQuiet_nil ?_)
 refine Mix.ze fun W4 hW4=>?_
 obtain ⟨k5,rfl⟩:=hW4
 go_wp2_with fail
 repeat ((first | refine Mix.zq ?_ | refine Mix.zp ?_ | refine Mix.zs ?_);go_big_quiet_step (fail);refine wpQuiet_nil ?_)
 refine Mix.ze fun W4 hW4=>?_
 obtain ⟨k6,rfl⟩:=hW4
 go_wp2_with fail
 intro k7
 go_wp2_with fail
 refine calls_world fun W9 hW9=>?_
 have B9:=hid (show Blk W9 g 111 (Rd.cells { r.fin x with ph:=r.ph,dv:=r.dv }) from by
  rw [hW9]
  exact Blk.as (((((((((((((((((((B3.out.drewN k4).put 14 _).put 15 _).put 16 _).put 17 _).put 18 _).put 19 _).put 20 _).put 21 _).put 22 _).put 23 _).put 24 _).put 25 _).put 26 _).drewN k5).put 28 _).drewN k6).put 34 _).drewN k7) (by kernel_rfl))
 have C9:=hid (show Ch (fun b=>b=g) w W9 from by
  rw [hW9]
  exact (((((((((((((((((((C3.out.drewN k4).set (fun _=>rfl) _).set (fun _=>rfl) _).set (fun _=>rfl) _).set (fun _=>rfl) _).set (fun _=>rfl) _).set (fun _=>rfl) _).set (fun _=>rfl) _).set (fun _=>rfl) _).set (fun _=>rfl) _).set (fun _=>rfl) _).set (fun _=>rfl) _).set (fun _=>rfl) _).set (fun _=>rfl) _).drewN k5).set (fun _=>rfl) _).drewN k6).set (fun _=>rfl) _).drewN k7))
 clear hW9
 refine (rthen_nil g _ 0 W9 B9.out).mono ?_
 rintro e w10 ⟨rfl,hb,hc⟩
 go_wp2_with fail
 go_ret
 exact ⟨rfl,hb,C9.out.trans hc (fun _ _ h=>h)⟩
def locV (rb xb:Nat):Value:=.func (.func 94) #[] #[.pointer (some ⟨rb,0,none⟩),.pointer (some ⟨xb,0,none⟩)]
theorem rlocal_any (g:Nat) (r:Rd) (x:RsV) (w:World) (h:Blk w g 111 r.cells) :
  Calls Tryz.prog 62 #[.pointer (some ⟨g,0,none⟩),x.v] w fun e w'=>∃rb xb,RdSet g { r with ph:=1,dv:=locV rb xb } w (.tuple #[]) e w'/\Blk w' rb 45 #[.pointer (some ⟨g,0,none⟩)]/\Blk w' xb 41 x.arr/\w.heap.size<=rb/\rb < xb:=by
 have H:=hid h
 have hlt:=h.lt
 clear h
 simp only [RsV.v]
 go_enter Tryz.func62,Tryz.ntmps62
 go_wp2_with fail
 refine calls_world fun W1 hW1=>?_
 have B1:=hid (show Blk W1 g 111 r.cells from by rw [hW1];exact (H.out.alloc _).alloc _)
 have R1:=hid (show Blk W1 w.heap.size 45 #[.pointer (some ⟨g,0,none⟩)] from by rw [hW1];exact (Blk.new w _ _).alloc _)
 obtain ⟨xb,hxb⟩:∃q,q=w.heap.size+1:=⟨_,rfl⟩
 have X1:=hid (show Blk W1 xb 41 x.arr from by rw [hW1,hxb];have t:=Blk.new (w.alloc (.cells #[.pointer (some ⟨g,0,none⟩)] 45)) 41 #[.int .i64 x.er,.int .i64 x.rev,.int .i64 x.sl,.int .i64 x.at',.int .u8 x.g,.string x.s,.int .i64 x.b,.int .i64 x.r,.int .i64 x.l,.int .u8 x.ik,.int .i64 x.fr,.int .i64 x.to,.slice none 0 0];simpa [RsV.arr] using t)
 have C1:=hid (show Ch (fun b=>b=g) w W1 from by rw [hW1];exact ((Ch.refl _ w).alloc _).alloc _)
 have hx:w.heap.size < xb:=by omega
 rw [<-hxb]
 clear hW1 hxb
 refine (rthen_any g r 1 _ _ _ W1 B1.out).mono ?_
 rintro e w2 ⟨rfl,hb,hc⟩
 go_wp2_with fail
 go_end0
 exact ⟨_,xb,⟨rfl,hb,C1.out.trans hc (fun _ _ h=>h)⟩,hc.blk R1.out (fun e=>by omega),hc.blk X1.out (fun e=>by omega),Nat.le_refl _,hx⟩
theorem rloc_run (g rb xb:Nat) (r:Rd) (x:RsV) (w:World) (h:Blk w g 111 r.cells) (hr:Blk w rb 45 #[.pointer (some ⟨g,0,none⟩)]) (hx:Blk w xb 41 x.arr) :
  Calls Tryz.prog 94 #[.pointer (some ⟨rb,0,none⟩),.pointer (some ⟨xb,0,none⟩)] w (RdSet g (r.fin x) w (.int .u64 0)):=by
 have H:=hid h
 have r0:w.cell? ⟨rb,0,none⟩=some (.pointer (some ⟨g,0,none⟩)):=hr.cell 0
 obtain ⟨x0,x1,x2,x3,x4,x5,x6,x7,x8,x9,x10,x11,x12⟩:=hx.c13
 clear h hr hx
 go_enter Tryz.func94,Tryz.ntmps94
 go_wp2_with fail
 refine (rend_any g r x w H.out).mono ?_
 rintro e w2 ⟨rfl,hb,hc⟩
 go_wp2_with fail
 go_ret
 exact ⟨rfl,hb,hc⟩
theorem rdescend_any (g sg:Nat) (r:Rd) (sc:Array Value) (at' rest:Int) (F:FuncId) (w:World) (h:Blk w g 111 r.cells) (hs:Blk w sg 144 sc) (ha:sc[1]?=some (.int .u64 at')) :
  Calls Tryz.prog 70 #[.pointer (some ⟨g,0,none⟩),.pointer (some ⟨sg,0,none⟩),.int .i64 rest,.func (.func F) #[.pointer (some ⟨g,0,none⟩)] #[]] w (RdSet g { r with ph:=12,dv:=.func (.func F) #[.pointer (some ⟨g,0,none⟩)] #[],at':=at',rest:=rest,base:=⟨0,0,0⟩ } w (.tuple #[])):=by
 have a1:w.cell? ⟨sg,1,none⟩=some (.int .u64 at'):=(hs.cell 1).trans ha
 have c29:w.cell? ⟨g,29,none⟩=some (.int .u64 r.at'):=h.cell 29
 have c30:w.cell? ⟨g,30,none⟩=some (.int .i64 r.rest):=h.cell 30
 have c31:w.cell? ⟨g,31,none⟩=some (.int .i64 r.base.b):=h.cell 31
 have c32:w.cell? ⟨g,32,none⟩=some (.int .i64 r.base.r):=h.cell 32
 have c33:w.cell? ⟨g,33,none⟩=some (.int .i64 r.base.l):=h.cell 33
 have f29:=h.free 29
 have f30:=h.free 30
 have f31:=h.free 31
 have f32:=h.free 32
 have f33:=h.free 33
 have H:=hid h
 clear h hs ha
 go_enter Tryz.func70,Tryz.ntmps70
 go_wp2_with fail
 refine calls_world fun W9 hW9=>?_
 have B9:=hid (show Blk W9 g 111 (Rd.cells { r with at':=at',rest:=rest,base:=⟨0,0,0⟩ }) from by
  rw [hW9]
  exact Blk.as (((((H.out.put 29 _).put 30 _).put 31 _).put 32 _).put 33 _) (by kernel_rfl))
 have C9:=hid (show Ch (fun b=>b=g) w W9 from by
  rw [hW9]
  exact ((((((Ch.refl (fun b=>b=g) w).set (fun _=>rfl) _).set (fun _=>rfl) _).set (fun _=>rfl) _).set (fun _=>rfl) _).set (fun _=>rfl) _))
 clear hW9
 refine (rthen_any g _ 12 F _ _ W9 B9.out).mono ?_
 rintro e w10 ⟨rfl,hb,hc⟩
 go_wp2_with fail
 go_end0
 exact ⟨rfl,hb,C9.out.trans hc (fun _ _ h=>h)⟩
end Go.Proofs.YtjcdknhejcbpiaaGreat
