/- Lemmas that the proof of the last text leans on; no condition. -/
import Derived.Test.YtjcdknhejcbpiaaGreatAb23
import Derived.Test.YtjcdknhejcbpiaaGreatAb24
set_option maxRecDepth 100000
set_option maxHeartbeats 4000000
namespace Go.Proofs.YtjcdknhejcbpiaaGreat
open Go.RowKit
set_option linter.unusedVariables false
set_option linter.unusedSimpArgs false
set_option linter.unusedSectionVars false
def closedF (g:Nat):Value:=.func (.func 64) #[.pointer (some ⟨g,0,none⟩)] #[]
def releaseF (g:Nat):Value:=.func (.func 68) #[.pointer (some ⟨g,0,none⟩)] #[]
def OpV.arr (x:OpV):Array Value:=#[.int .u8 x.k,.int .i64 x.sl,.int .i64 x.at',.int .i64 x.n,.int .u32 x.id,.int .u8 x.g,.string x.s]
theorem start_acq (g:Nat) (r:Rd) (w:World) (h:Blk w g 111 r.cells) (hop:r.op=⟨5,0,0,0,0,0,⟨#[]⟩⟩) :
  Calls Tryz.prog 38 #[.pointer (some ⟨g,0,none⟩)] w (RdSet g { r with ph:=2,dv:=closedF g } w (.tuple #[])):=by
 have H:=hid h
 have hc:=h.cell
 have lg:=h.lt
 have o3:w.cell? ⟨g,3,none⟩=some (.int .u8 5):=(hc 3).trans (by simp [Rd.cells,hop])
 have o4:w.cell? ⟨g,4,none⟩=some (.int .i64 0):=(hc 4).trans (by simp [Rd.cells,hop])
 have o5:w.cell? ⟨g,5,none⟩=some (.int .i64 0):=(hc 5).trans (by simp [Rd.cells,hop])
 have o6:w.cell? ⟨g,6,none⟩=some (.int .i64 0):=(hc 6).trans (by simp [Rd.cells,hop])
 have o7:w.cell? ⟨g,7,none⟩=some (.int .u32 0):=(hc 7).trans (by simp [Rd.cells,hop])
 have o8:w.cell? ⟨g,8,none⟩=some (.int .u8 0):=(hc 8).trans (by simp [Rd.cells,hop])
 have o9:w.cell? ⟨g,9,none⟩=some (.string ⟨#[]⟩):=(hc 9).trans (by simp [Rd.cells,hop])
 clear h hc hop
 go_enter Tryz.func38,Tryz.ntmps38
 go_wp2_with fail
 refine calls_world fun W1 hW1=>?_
 have C1:=hid (show Ch (fun _=>False) w W1 from by rw [hW1];exact ((Ch.refl _ w).alloc _).alloc _)
 have R1:=hid (show Blk W1 w.heap.size 45 #[.pointer (some ⟨g,0,none⟩)] from by rw [hW1];exact (Blk.new w _ _).alloc _)
 obtain ⟨ob,hob⟩:∃x,x=w.heap.size+1:=⟨_,rfl⟩
 have T1:=hid (show Blk W1 ob 26 #[.int .u8 5,.int .i64 0,.int .i64 0,.int .i64 0,.int .u32 0,.int .u8 0,.string ⟨#[]⟩] from by rw [hW1,hob];have t:=Blk.new (w.alloc (.cells #[.pointer (some ⟨g,0,none⟩)] 45)) 26 #[.int .u8 5,.int .i64 0,.int .i64 0,.int .i64 0,.int .u32 0,.int .u8 0,.string ⟨#[]⟩];simpa using t)
 rw [←hob]
 clear hW1 hob o3 o4 o5 o6 o7 o8 o9
 refine (check_acq g r W1 (C1.out.blk H.out id)).mono ?_
 rintro e w2 ⟨rfl,hc⟩
 have C2:=hid (C1.out.trans hc (fun _ _ h=>h))
 have r0:w2.cell? ⟨w.heap.size,0,none⟩=some (.pointer (some ⟨g,0,none⟩)):=(hc.blk R1.out id).cell 0
 have t0:w2.cell? ⟨ob,0,none⟩=some (.int .u8 5):=(hc.blk T1.out id).cell 0
 clear hc
 go_wp2_with fail
 refine (rthen_any g r 2 _ _ _ w2 (C2.out.blk H.out id)).mono ?_
 rintro e w3 ⟨rfl,hb,hc⟩
 go_wp2_with fail
 go_end0
 exact ⟨rfl,hb,(C2.out.mono (fun _ _ e=>e.elim)).trans hc (fun _ _ h=>h)⟩
theorem start_bad (g:Nat) (r:Rd) (er:Int) (w:World) (h:Blk w g 111 r.cells) (he:er≠0) (hck:∀W,Ch (fun _=>False) w W→Calls Tryz.prog 61 #[.pointer (some ⟨g,0,none⟩),r.op.v] W fun e w'=>e=.returned (.int .i64 er)∧Ch (fun _=>False) W w') :
  Calls Tryz.prog 38 #[.pointer (some ⟨g,0,none⟩)] w fun e w'=>∃rb xb,RdSet g { r with ph:=1,dv:=locV rb xb } w (.tuple #[]) e w'∧Blk w' rb 45 #[.pointer (some ⟨g,0,none⟩)]∧Blk w' xb 41 (RsV.arr { RsV.zero with er:=er })∧w.heap.size≤rb∧rb < xb:=by
 have H:=hid h
 have HCK:=hid hck
 have hc:=h.cell
 have lg:=h.lt
 have d1:(er != 0)=true:=by rw [bne_iff_ne];exact he
 have o3:w.cell? ⟨g,3,none⟩=some (.int .u8 r.op.k):=hc 3
 have o4:w.cell? ⟨g,4,none⟩=some (.int .i64 r.op.sl):=hc 4
 have o5:w.cell? ⟨g,5,none⟩=some (.int .i64 r.op.at'):=hc 5
 have o6:w.cell? ⟨g,6,none⟩=some (.int .i64 r.op.n):=hc 6
 have o7:w.cell? ⟨g,7,none⟩=some (.int .u32 r.op.id):=hc 7
 have o8:w.cell? ⟨g,8,none⟩=some (.int .u8 r.op.g):=hc 8
 have o9:w.cell? ⟨g,9,none⟩=some (.string r.op.s):=hc 9
 clear h hc hck he
 go_enter Tryz.func38,Tryz.ntmps38
 go_wp2_with fail
 refine calls_world fun W1 hW1=>?_
 have C1:=hid (show Ch (fun _=>False) w W1 from by rw [hW1];exact ((Ch.refl _ w).alloc _).alloc _)
 have R1:=hid (show Blk W1 w.heap.size 45 #[.pointer (some ⟨g,0,none⟩)] from by rw [hW1];exact (Blk.new w _ _).alloc _)
 clear hW1 o3 o4 o5 o6 o7 o8 o9
 refine (HCK.out W1 C1.out).mono ?_
 rintro e w2 ⟨rfl,hc⟩
 have C2:=hid (C1.out.trans hc (fun _ _ h=>h))
 have r0:w2.cell? ⟨w.heap.size,0,none⟩=some (.pointer (some ⟨g,0,none⟩)):=(hc.blk R1.out id).cell 0
 clear hc
 go_wp2_with fail
 refine (rlocal_any g r { RsV.zero with er:=er } w2 (C2.out.blk H.out id)).mono ?_
 rintro e w3 ⟨rb,xb,⟨rfl,hb,hc⟩,h1,h2,h3,h4⟩
 go_wp2_with fail
 (try simp only [Exit.inBlock,Exit.then]);refine bodyPost_ret (results_none rfl _ _ _) rfl ?_
 exact ⟨rb,xb,⟨rfl,hb,(C2.out.mono (fun _ _ e=>e.elim)).trans hc (fun _ _ h=>h)⟩,h1,h2,Nat.le_trans C2.out.size h3,h4⟩
theorem start_rel (g lb n j sg:Nat) (r:Rd) (l:List (Option Nat)) (x:Rv) (mv dv:Value) (ix cu:Int) (w:World) (h:Blk w g 111 r.cells) (hs:r.sl=.slice (some ⟨lb,0,none⟩) n n) (hl:Blk w lb 140 (pinsA l)) (hop:r.op=⟨13,(j:Int),0,0,0,0,⟨#[]⟩⟩) (hj:j < n) (hlj:l[j]?=some (some sg))
  (hsg:Blk w sg 144 #[.int .i64 x.num,.int .u64 x.at',.int .i64 x.h,.int .i64 x.b,.int .i64 x.r,.int .i64 x.l,mv,dv,.int .i64 ix,.int .i64 cu]) :
  Calls Tryz.prog 38 #[.pointer (some ⟨g,0,none⟩)] w (RdSet g { r with ph:=10,dv:=releaseF g } w (.tuple #[])):=by
 have H:=hid h
 have HL:=hid hl
 have HS:=hid hs
 have HJ:=hid hlj
 have HSG:=hid hsg
 have hc:=h.cell
 have lg:=h.lt
 have d1:decide (j < n)=true:=decide_eq_true hj
 have d2:decide ((j:Int) < (n:Int))=true:=decide_eq_true (by omega)
 have HF:=hid (fm13 g lb n r (j:Int) hs (by omega) (by omega))
 have o3:w.cell? ⟨g,3,none⟩=some (.int .u8 13):=(hc 3).trans (by simp [Rd.cells,hop])
 have o4:w.cell? ⟨g,4,none⟩=some (.int .i64 (j:Int)):=(hc 4).trans (by simp [Rd.cells,hop])
 have o5:w.cell? ⟨g,5,none⟩=some (.int .i64 0):=(hc 5).trans (by simp [Rd.cells,hop])
 have o6:w.cell? ⟨g,6,none⟩=some (.int .i64 0):=(hc 6).trans (by simp [Rd.cells,hop])
 have o7:w.cell? ⟨g,7,none⟩=some (.int .u32 0):=(hc 7).trans (by simp [Rd.cells,hop])
 have o8:w.cell? ⟨g,8,none⟩=some (.int .u8 0):=(hc 8).trans (by simp [Rd.cells,hop])
 have o9:w.cell? ⟨g,9,none⟩=some (.string ⟨#[]⟩):=(hc 9).trans (by simp [Rd.cells,hop])
 clear h hc hop hl hs hlj hsg
 go_enter Tryz.func38,Tryz.ntmps38
 go_wp2_with fail
 refine calls_world fun W1 hW1=>?_
 have C1:=hid (show Ch (fun _=>False) w W1 from by rw [hW1];exact ((Ch.refl _ w).alloc _).alloc _)
 have R1:=hid (show Blk W1 w.heap.size 45 #[.pointer (some ⟨g,0,none⟩)] from by rw [hW1];exact (Blk.new w _ _).alloc _)
 obtain ⟨ob,hob⟩:∃x,x=w.heap.size+1:=⟨_,rfl⟩
 have T1:=hid (show Blk W1 ob 26 #[.int .u8 13,.int .i64 (j:Int),.int .i64 0,.int .i64 0,.int .u32 0,.int .u8 0,.string ⟨#[]⟩] from by rw [hW1,hob];have t:=Blk.new (w.alloc (.cells #[.pointer (some ⟨g,0,none⟩)] 45)) 26 #[.int .u8 13,.int .i64 (j:Int),.int .i64 0,.int .i64 0,.int .u32 0,.int .u8 0,.string ⟨#[]⟩];simpa using t)
 have lob:=hid (show w.heap.size < ob from by omega)
 rw [←hob]
 clear hW1 hob o3 o4 o5 o6 o7 o8 o9
 have hck:=check_held g lb n j sg r ⟨13,(j:Int),0,0,0,0,⟨#[]⟩⟩ l x mv dv ix cu W1 (C1.out.blk H.out id) HS.out (C1.out.blk HL.out id) rfl hj HJ.out (C1.out.blk HSG.out id) HF.out (.inr (.inr rfl))
 refine hck.mono ?_
 clear hck
 rintro e w2 ⟨rfl,hc⟩
 have C2:=hid (C1.out.trans hc (fun _ _ h=>h))
 have R2:=hid (hc.blk R1.out id)
 have T2:=hid (hc.blk T1.out id)
 have r0:w2.cell? ⟨w.heap.size,0,none⟩=some (.pointer (some ⟨g,0,none⟩)):=R2.out.cell 0
 have t0:w2.cell? ⟨ob,0,none⟩=some (.int .u8 13):=T2.out.cell 0
 clear hc
 go_wp2_with fail
 obtain ⟨S,hS⟩:∃S:Nat→Prop,∀k,S k↔k < w2.heap.size:=⟨_,fun _=>Iff.rfl⟩
 have hSp1:Mix.Has S w.heap.size:=(hS _).2 R2.out.lt
 have hSp2:Mix.Has S ob:=(hS _).2 T2.out.lt
 have hSp3:Mix.Has S g:=(hS _).2 (C2.out.blk H.out id).lt
 have hSp4:Mix.Has S lb:=(hS _).2 (C2.out.blk HL.out id).lt
 have HSS:=hid hS
 clear hS
 have t1:w2.cell? ⟨ob,1,none⟩=some (.int .i64 (j:Int)):=T2.out.cell 1
 have a2:w2.cell? ⟨g,2,none⟩=some (.slice (some ⟨lb,0,none⟩) n n):=((C2.out.blk H.out (fun e=>e)).cell 2).trans (by rw [←HS.out];rfl)
 have lj:w2.cell? ⟨lb,j,none⟩=some (.pointer (some ⟨sg,0,none⟩)):=((C2.out.blk HL.out (fun e=>e)).cell j).trans (pinsA_at (o:=some sg) HJ.out)
 refine Mix.wp_region_mix S (fun i=>([4,1,1,4,1,4,1,4,3,2]:List Nat).getD i 0) [0,1,2,3,4,5,6,7,8,9] (by kernel_rfl) (by kernel_rfl) ?_
 repeat ((first | refine Mix.q1 rfl ?_ | refine Mix.p1 rfl rfl ?_ | refine Mix.s1 rfl rfl ?_);go_big_quiet_step (fail);refine wpQuiet_nil ?_)
 refine Mix.a1 rfl fun W3 hW3=>?_
 obtain ⟨k3,rfl⟩:=hW3
 go_wp2_with fail
 refine ⟨fun k hk=>Below.heap_alloc _ _ k ((HSS.out k).1 hk),Mix.mix_world fun W4 hW4=>?_⟩
 have C4:=hid (show Ch (fun _=>False) w W4 from by rw [hW4];first | exact (C2.out.drewN k3).alloc _ | exact C2.out.trans (Ch.push rfl rfl rfl rfl) (fun _ _ h=>h))
 have R4:=hid (show Blk W4 w.heap.size 45 #[.pointer (some ⟨g,0,none⟩)] from by rw [hW4];exact (R2.out.drewN k3).alloc _)
 have T4:=hid (show Blk W4 ob 26 #[.int .u8 13,.int .i64 (j:Int),.int .i64 0,.int .i64 0,.int .u32 0,.int .u8 0,.string ⟨#[]⟩] from by rw [hW4];exact (T2.out.drewN k3).alloc _)
 obtain ⟨zb,hzb⟩:∃z,z=w2.heap.size:=⟨_,rfl⟩
 have Z4:=hid (show Blk W4 zb 140 #[.pointer none] from by rw [hW4,hzb];first | exact Blk.new (w2.drewN k3) _ _ | exact Blk.push rfl)
 have nz1:=hid (show w.heap.size≠zb from by have:=R2.out.lt;omega)
 have nz2:=hid (show ob≠zb from by have:=T2.out.lt;omega)
 have nz3:=hid (show w.heap.size≤zb from by have:=R2.out.lt;omega)
 rw [←hzb]
 clear hW4 hzb r0 t0 t1 a2 lj
 have z0:W4.cell? ⟨zb,0,none⟩=some (.pointer none):=Z4.out.cell 0
 have z1:=Z4.out.free 0
 repeat ((first | refine Mix.q1 rfl ?_ | refine Mix.p1 rfl rfl ?_ | refine Mix.s1 rfl rfl ?_);go_big_quiet_step (fail);refine wpQuiet_nil ?_)
 refine Mix.e1 rfl fun W5 hW5=>?_
 obtain ⟨k5,rfl⟩:=hW5
 go_wp2_with fail
 intro k6
 refine at_world fun W7 hW7=>?_
 have C7:=hid (show Ch (fun _=>False) w W7 from by rw [hW7];exact ((C4.out.drewN k5).set (fun h=>absurd h (by have:=nz3.out;omega)) _).drewN k6)
 have r0:W7.cell? ⟨w.heap.size,0,none⟩=some (.pointer (some ⟨g,0,none⟩)):=by rw [hW7];exact (((R4.out.drewN k5).far nz1.out _).drewN k6).cell 0
 have t0:W7.cell? ⟨ob,0,none⟩=some (.int .u8 13):=by rw [hW7];exact (((T4.out.drewN k5).far nz2.out _).drewN k6).cell 0
 clear hW7 z0 z1
 go_wp2_with fail
 refine (rthen_any g r 10 _ _ _ W7 (C7.out.blk H.out id)).mono ?_
 rintro e w3 ⟨rfl,hb,hc⟩
 go_wp2_with fail
 go_end0
 exact ⟨rfl,hb,(C7.out.mono (fun _ _ e=>e.elim)).trans hc (fun _ _ h=>h)⟩
theorem rbegin_any (g:Nat) (r:Rd) (op:OpV) (w:World) (h:Blk w g 111 r.cells) (hb:r.busy=false) (h5:5≤op.k) (h13:op.k≤13) (Q:World→World→Prop)
  (hst:∀W,Blk W g 111 (Rd.cells { r with op:=op,busy:=true,done:=false })→Ch (fun b=>b=g) w W→Calls Tryz.prog 38 #[.pointer (some ⟨g,0,none⟩)] W fun e w'=>e=.returned (.tuple #[])∧Q W w') :
  Calls Tryz.prog 13 #[.pointer (some ⟨g,0,none⟩),op.v] w fun e w'=>e=.returned (.int .i64 0)∧∃W,Ch (fun b=>b=g) w W∧Q W w':=by
 have H:=hid h
 have HST:=hid hst
 have lg:=h.lt
 have d5:decide (op.k < 5)=false:=decide_eq_false (by omega)
 have d13:decide (13 < op.k)=false:=decide_eq_false (by omega)
 obtain ⟨k,sl,pos,num,id',gr,s⟩:=op
 simp only at d5 d13
 simp only [OpV.v]
 have c10:w.cell? ⟨g,10,none⟩=some (.bool false):=(h.cell 10).trans (by rw [←hb];rfl)
 have c3:w.cell? ⟨g,3,none⟩=some (.int .u8 r.op.k):=h.cell 3
 have c4:w.cell? ⟨g,4,none⟩=some (.int .i64 r.op.sl):=h.cell 4
 have c5:w.cell? ⟨g,5,none⟩=some (.int .i64 r.op.at'):=h.cell 5
 have c6:w.cell? ⟨g,6,none⟩=some (.int .i64 r.op.n):=h.cell 6
 have c7:w.cell? ⟨g,7,none⟩=some (.int .u32 r.op.id):=h.cell 7
 have c8:w.cell? ⟨g,8,none⟩=some (.int .u8 r.op.g):=h.cell 8
 have c9:w.cell? ⟨g,9,none⟩=some (.string r.op.s):=h.cell 9
 have c13:w.cell? ⟨g,13,none⟩=some (.bool r.done):=h.cell 13
 have f3:=h.free 3
 have f4:=h.free 4
 have f5:=h.free 5
 have f6:=h.free 6
 have f7:=h.free 7
 have f8:=h.free 8
 have f9:=h.free 9
 have f10:=h.free 10
 have f13:=h.free 13
 clear h hst hb h5 h13
 go_enter Tryz.func13,Tryz.ntmps13
 go_wp2_with fail
 refine calls_world fun W1 hW1=>?_
 have B1:=hid (show Blk W1 g 111 (Rd.cells { r with op:=⟨k,sl,pos,num,id',gr,s⟩,busy:=true,done:=false }) from by
  rw [hW1]
  exact Blk.as ((((((((((H.out.put 3 _).put 4 _).put 5 _).put 6 _).put 7 _).put 8 _).put 9 _).put 10 _).put 13 _).alloc _) (by kernel_rfl))
 have C1:=hid (show Ch (fun b=>b=g) w W1 from by
  rw [hW1]
  exact ((((((((((Ch.refl (fun b=>b=g) w).set (fun _=>rfl) _).set (fun _=>rfl) _).set (fun _=>rfl) _).set (fun _=>rfl) _).set (fun _=>rfl) _).set (fun _=>rfl) _).set (fun _=>rfl) _).set (fun _=>rfl) _).set (fun _=>rfl) _).alloc _)
 clear hW1 c3 c4 c5 c6 c7 c8 c9 c10 c13 f3 f4 f5 f6 f7 f8 f9 f10 f13
 refine (HST.out W1 B1.out C1.out).mono ?_
 rintro e w2 ⟨rfl,hq⟩
 have HQ:=hid hq
 clear hq
 go_wp2_with fail
 go_ret
 exact ⟨rfl,W1,C1.out,HQ.out⟩
def stepV (cl ph:Int) (acc:Bool) (hv:Int) (took done:Bool):Value:=.agg #[.int .i64 cl,.int .u8 ph,.bool acc,.int .u64 hv,.bool took,.bool done]
theorem mem_drop {B:Nat} {w0 w:World} {L X:List Res} (h:Mem B w0 (L++X) w):Mem B w0 L w:=by
 have:=h.take L.length
 rwa [List.take_left] at this
theorem mem_front2 {B:Nat} {w0 w w':World} {L:List Res} (h:Mem B w0 L w) (c:Ch (fun _=>False) w w') {r z:Nat} {t u:TypeId} {cs ds:Array Value} (hr:Blk w' r t cs) (hz:Blk w' z u ds) (lr:w.heap.size≤r) (lz:w.heap.size≤z) (hne:r≠z):Mem B w0 ([blkR r t cs,blkR z u ds]++L) w':=by
 have h1:=h.keep c
 have low:∀(i:Nat) (s:Res),L[i]?=some s→∀k,s.foot k→k < w.heap.size:=fun i s hi k hk=>s.lt (h.each i s hi) k hk
 have h2:=h1.addK (blkR r t cs) hr (fun i s hi k hk e=>by have:=low i s hi k hk;have e:k=r:=e;omega) (fun k e=>by have e:k=r:=e;have:=h.bz;omega)
 have h3:=h2.addK (blkR z u ds) hz (fun i s hi k hk e=>by
  have e:k=z:=e
  rcases mem_app hi with ⟨_,rfl⟩ | hi
  ·have hk:k=r:=hk
   omega
  ·have:=low i s hi k hk
   omega) (fun k e=>by have e:k=z:=e;have:=h.bz;omega)
 rw [List.append_assoc] at h3
 exact h3.perm List.perm_append_comm
section
variable {B:Nat} {w0 w:World} {R:List Res} {σ:RS} {y:Ly} {n m:Nat}
theorem step_m (M:Mem B w0 (σ.L B++R) w) (O:σ.Ok y n m) (hb:σ.r.busy=true) (F:FuncId) (hdv:σ.r.dv=.func (.func F) #[.pointer (some ⟨σ.g,0,none⟩)] #[]) (hin:∀W:World,(callFunc F #[.pointer (some ⟨σ.g,0,none⟩)]).run Tryz.prog W=.ok (.enter F #[.pointer (some ⟨σ.g,0,none⟩)]) W)
  (P:Int→RS→Prop) (hP:∀hv σ',P hv σ'→σ'.g=σ.g∧σ'.r.sb=σ.r.sb∧σ'.r.cl=σ.r.cl∧σ'.cs=σ.cs∧σ'.p=σ.p∧σ'.A.ab=σ.A.ab∧σ'.eb=σ.eb∧σ'.s.lg.length < 1000000)
  (hdo:∀R W,Mem B w0 (σ.L B++R) W→Calls Tryz.prog F #[.pointer (some ⟨σ.g,0,none⟩)] W fun e w'=>∃hv σ',e=.returned (.int .u64 hv)∧Mem B w0 (σ'.L B++R) w'∧P hv σ') :
  Calls Tryz.prog 15 #[.pointer (some ⟨σ.g,0,none⟩)] w fun e w'=>∃hv σ',e=.returned (.tuple #[stepV σ.r.cl σ.r.ph (decide (σ.s.lg.length < σ'.s.lg.length)) hv σ'.r.done σ'.r.done,.int .i64 0])∧Mem B w0 (σ'.L B++R) w'∧P hv σ':=by
 have HM:=hid M
 have HO:=hid O
 have HP:=hid hP
 have HDO:=hid hdo
 have HDV:=hid hdv
 have lg:=(m_rd M).lt
 have a0:w.cell? ⟨σ.g,0,none⟩=some (.pointer (some ⟨σ.r.sb,0,none⟩)):=(m_rd M).cell 0
 have a10:w.cell? ⟨σ.g,10,none⟩=some (.bool true):=((m_rd M).cell 10).trans (by rw [←hb];rfl)
 clear M O hP hdo hdv hb
 go_enter Tryz.func15,Tryz.ntmps15
 go_wp2_with fail
 refine calls_world fun W1 hW1=>?_
 have C1:=hid (show Ch (fun _=>False) w W1 from by rw [hW1];exact (Ch.refl _ w).alloc _)
 have Z1:=hid (show Blk W1 w.heap.size 57 #[.int .i64 0,.int .u8 0,.bool false,.int .u64 0,.bool false,.bool false] from by rw [hW1];exact Blk.new w _ _)
 clear hW1
 have M1:=hid (HM.out.keep C1.out)
 refine (sbank_any W1 (m_st M1.out) HO.out.stf).mono ?_
 rintro e w' ⟨rfl,rfl⟩
 go_wp2_with fail
 refine (len_any B σ.p σ.cb σ.lv σ.s W1 (m_bk M1.out)).mono ?_
 rintro e w' ⟨rfl,rfl⟩
 clear a0 a10
 have a1:W1.cell? ⟨σ.g,1,none⟩=some (.int .i64 σ.r.cl):=(m_rd M1.out).cell 1
 have a11:W1.cell? ⟨σ.g,11,none⟩=some (.int .u8 σ.r.ph):=(m_rd M1.out).cell 11
 go_wp2_with fail
 obtain ⟨S,hS⟩:∃S:Nat→Prop,∀k,S k↔k < W1.heap.size:=⟨_,fun _=>Iff.rfl⟩
 have hSp1:Mix.Has S σ.g:=(hS _).2 (m_rd M1.out).lt
 have HSS:=hid hS
 clear hS
 refine Mix.wp_region_mix S (fun i=>([1,1,1,4,1,1,1,4,1,3,2]:List Nat).getD i 0) [0,1,2,3,4,5,6,7,8,9,10] (by kernel_rfl) (by kernel_rfl) ?_
 repeat ((first | refine Mix.q1 rfl ?_ | refine Mix.p1 rfl rfl ?_ | refine Mix.s1 rfl rfl ?_);go_big_quiet_step (fail);refine wpQuiet_nil ?_)
 refine Mix.a1 rfl fun W2 hW2=>?_
 obtain ⟨k2,rfl⟩:=hW2
 go_wp2_with fail
 refine ⟨fun k hk=>Below.heap_alloc _ _ k ((HSS.out k).1 hk),Mix.mix_world fun W3 hW3=>?_⟩
 obtain ⟨zb,hzb⟩:∃z,z=W1.heap.size:=⟨_,rfl⟩
 have C3:=hid (show Ch (fun _=>False) w W3 from by rw [hW3];first | exact (C1.out.drewN k2).alloc _ | exact C1.out.trans (Ch.push rfl rfl rfl rfl) (fun _ _ h=>h))
 have Z3:=hid (show Blk W3 w.heap.size 57 #[.int .i64 0,.int .u8 0,.bool false,.int .u64 0,.bool false,.bool false] from by rw [hW3];exact (Z1.out.drewN k2).alloc _)
 have Y3:=hid (show Blk W3 zb 57 #[.int .i64 0,.int .u8 0,.bool false,.int .u64 0,.bool false,.bool false] from by rw [hW3,hzb];first | exact Blk.new (W1.drewN k2) _ _ | exact Blk.push rfl)
 have nz:=hid (show w.heap.size < zb from by have:=Z1.out.lt;omega)
 rw [←hzb]
 clear hW3 hzb a1 a11
 have M3:=hid (HM.out.keep C3.out)
 have y0:W3.cell? ⟨zb,0,none⟩=some (.int .i64 0):=Y3.out.cell 0
 have g0:=Y3.out.free 0
 have y1:W3.cell? ⟨zb,1,none⟩=some (.int .u8 0):=Y3.out.cell 1
 have g1:=Y3.out.free 1
 have y2:W3.cell? ⟨zb,2,none⟩=some (.bool false):=Y3.out.cell 2
 have g2:=Y3.out.free 2
 have y3:W3.cell? ⟨zb,3,none⟩=some (.int .u64 0):=Y3.out.cell 3
 have g3:=Y3.out.free 3
 have y4:W3.cell? ⟨zb,4,none⟩=some (.bool false):=Y3.out.cell 4
 have g4:=Y3.out.free 4
 have y5:W3.cell? ⟨zb,5,none⟩=some (.bool false):=Y3.out.cell 5
 have g5:=Y3.out.free 5
 repeat ((first | refine Mix.q1 rfl ?_ | refine Mix.p1 rfl rfl ?_ | refine Mix.s1 rfl rfl ?_);go_big_quiet_step (fail);refine wpQuiet_nil ?_)
 refine Mix.e1 rfl fun W4 hW4=>?_
 obtain ⟨k4,rfl⟩:=hW4
 go_wp2_with fail
 intro k5
 refine at_world fun W6 hW6=>?_
 have C6:=hid (show Ch (fun _=>False) w W6 from by rw [hW6];exact (((((((C3.out.drewN k4).set (fun h=>absurd h (by have:=nz.out;omega)) _).set (fun h=>absurd h (by have:=nz.out;omega)) _).set (fun h=>absurd h (by have:=nz.out;omega)) _).set (fun h=>absurd h (by have:=nz.out;omega)) _).set (fun h=>absurd h (by have:=nz.out;omega)) _).set (fun h=>absurd h (by have:=nz.out;omega)) _).drewN k5)
 have Z6:=hid (show Blk W6 w.heap.size 57 #[.int .i64 0,.int .u8 0,.bool false,.int .u64 0,.bool false,.bool false] from by rw [hW6];exact (((((((Z3.out.drewN k4).far (Nat.ne_of_lt nz.out) _).far (Nat.ne_of_lt nz.out) _).far (Nat.ne_of_lt nz.out) _).far (Nat.ne_of_lt nz.out) _).far (Nat.ne_of_lt nz.out) _).far (Nat.ne_of_lt nz.out) _).drewN k5)
 have Y6:=hid (show Blk W6 zb 57 #[.int .i64 σ.r.cl,.int .u8 σ.r.ph,.bool false,.int .u64 0,.bool false,.bool false] from by rw [hW6];exact (((((((Y3.out.drewN k4).put 0 _).put 1 _).put 2 _).put 3 _).put 4 _).put 5 _).drewN k5)
 clear hW6 y0 g0 y1 g1 y2 g2 y3 g3 y4 g4 y5 g5
 have M6:=hid (HM.out.keep C6.out)
 have a12:W6.cell? ⟨σ.g,12,none⟩=some (.func (.func F) #[.pointer (some ⟨σ.g,0,none⟩)] #[]):=((m_rd M6.out).cell 12).trans (by rw [←HDV.out];rfl)
 have MF:=mem_front2 HM.out C6.out Z6.out Y6.out (Nat.le_refl _) (Nat.le_of_lt nz.out) (Nat.ne_of_lt nz.out)
 have MX6:=hid (show Mem B w0 (σ.L B++(R++[blkR w.heap.size 57 #[.int .i64 0,.int .u8 0,.bool false,.int .u64 0,.bool false,.bool false],blkR zb 57 #[.int .i64 σ.r.cl,.int .u8 σ.r.ph,.bool false,.int .u64 0,.bool false,.bool false]])) W6 from by
  rw [←List.append_assoc]
  exact MF.perm List.perm_append_comm)
 clear MF
 go_wp2_with fail
 refine (HDO.out _ W6 MX6.out).mono ?_
 rintro e w7 ⟨hv,σ',rfl,hM7,hP7⟩
 obtain ⟨q1,q2,q3,q4,q5,q6,q7,q8⟩:=HP.out hv σ' hP7
 have HPV:=hid hP7
 have MX7:=hid (show Mem B w0 ([blkR w.heap.size 57 #[.int .i64 0,.int .u8 0,.bool false,.int .u64 0,.bool false,.bool false],blkR zb 57 #[.int .i64 σ.r.cl,.int .u8 σ.r.ph,.bool false,.int .u64 0,.bool false,.bool false]]++(σ'.L B++R)) w7 from by
  rw [←List.append_assoc] at hM7
  exact hM7.perm List.perm_append_comm)
 have HQ1:=hid q1
 have HQ2:=hid q2
 have HSTF:=hid (show StF σ'.cs σ'.p σ'.A.ab σ'.eb y from by rw [q4,q5,q6,q7];exact HO.out.stf)
 have HQ8:=hid q8
 have gz1:σ.g≠zb:=by have:=nz.out;omega
 have gz2:zb≠σ.g:=Ne.symm gz1
 have rz1:w.heap.size≠zb:=Nat.ne_of_lt nz.out
 have rz2:zb≠w.heap.size:=Ne.symm rz1
 clear hM7 hP7 a12 q1 q2 q3 q4 q5 q6 q7 q8
 have Y7:=hid (MX7.out.each 1 _ rfl)
 have b0:w7.cell? ⟨σ.g,0,none⟩=some (.pointer (some ⟨σ.r.sb,0,none⟩)):=by
  have:=(m_rd (show Mem B w0 (σ'.L B++R) w7 from MX7.out.drop 2)).cell 0
  rw [HQ1.out] at this
  rw [←HQ2.out]
  exact this
 have y3:w7.cell? ⟨zb,3,none⟩=some (.int .u64 0):=Y7.out.cell 3
 have g3:=Y7.out.free 3
 go_wp2_with fail
 refine calls_world fun W8 hW8=>?_
 have MX8:=hid (show Mem B w0 ([blkR w.heap.size 57 #[.int .i64 0,.int .u8 0,.bool false,.int .u64 0,.bool false,.bool false],blkR zb 57 #[.int .i64 σ.r.cl,.int .u8 σ.r.ph,.bool false,.int .u64 hv,.bool false,.bool false]]++(σ'.L B++R)) W8 from by rw [hW8];exact MX7.out.put (i:=1) rfl 3 (.int .u64 hv))
 clear hW8 b0 y3 g3
 have M8:=hid (show Mem B w0 (σ'.L B++R) W8 from MX8.out.drop 2)
 have hst8:=m_st M8.out
 rw [HQ2.out] at hst8
 have HST8:=hid hst8
 clear hst8
 refine (sbank_any W8 HST8.out HSTF.out).mono ?_
 rintro e w' ⟨rfl,rfl⟩
 go_wp2_with fail
 refine (len_any B σ'.p σ'.cb σ'.lv σ'.s W8 (m_bk M8.out)).mono ?_
 rintro e w' ⟨rfl,rfl⟩
 have Y8:=hid (MX8.out.each 1 _ rfl)
 have y2:W8.cell? ⟨zb,2,none⟩=some (.bool false):=Y8.out.cell 2
 have g2:=Y8.out.free 2
 obtain ⟨la,hla⟩:∃x,x=σ.s.lg.length:=⟨_,rfl⟩
 obtain ⟨lb,hlb⟩:∃x,x=σ'.s.lg.length:=⟨_,rfl⟩
 rw [←hla,←hlb]
 have HLA:=hid hla
 have HLB:=hid hlb
 clear hla hlb
 go_wp2_with fail
 refine at_world fun W9 hW9=>?_
 obtain ⟨ac,hac⟩:∃x:Bool,x=decide (la < lb):=⟨_,rfl⟩
 have HAC:=hid hac
 have MX9:=hid (show Mem B w0 ([blkR w.heap.size 57 #[.int .i64 0,.int .u8 0,.bool false,.int .u64 0,.bool false,.bool false],blkR zb 57 #[.int .i64 σ.r.cl,.int .u8 σ.r.ph,.bool ac,.int .u64 hv,.bool false,.bool false]]++(σ'.L B++R)) W9 from by rw [hW9,hac];first | exact MX8.out.put (i:=1) rfl 2 _ | exact (by simpa using MX8.out.put (i:=1) rfl 2 (.bool (decide (la < lb)))))
 clear hW9 y2 g2 hac
 obtain ⟨dn,hdn⟩:∃x,x=σ'.r.done:=⟨_,rfl⟩
 have HDN:=hid hdn
 have d13:W9.cell? ⟨σ.g,13,none⟩=some (.bool dn):=by
  have:=(m_rd (show Mem B w0 (σ'.L B++R) W9 from MX9.out.drop 2)).cell 13
  rw [HQ1.out] at this
  rw [hdn]
  exact this
 have lg9:=(m_rd (show Mem B w0 (σ'.L B++R) W9 from MX9.out.drop 2)).lt
 rw [HQ1.out] at lg9
 have Y9:=hid (MX9.out.each 1 _ rfl)
 have y4:W9.cell? ⟨zb,4,none⟩=some (.bool false):=Y9.out.cell 4
 have y5:W9.cell? ⟨zb,5,none⟩=some (.bool false):=Y9.out.cell 5
 have g4:=Y9.out.free 4
 have g5:=Y9.out.free 5
 clear hdn
 obtain ⟨S,hS⟩:∃S:Nat→Prop,∀k,S k↔k=σ.g:=⟨_,fun _=>Iff.rfl⟩
 have hSp2:Mix.Has S σ.g:=(hS _).2 rfl
 have HS2:=hid hS
 clear hS
 refine Mix.wp_region_mix S (fun i=>([0,0,0,0,1,1,1,4,0,3,0,2]:List Nat).getD i 0) [0,1,2,3,4,5,6,7,8,9,10,11] (by kernel_rfl) (by kernel_rfl) ?_
 repeat ((first | refine Mix.q1 rfl ?_ | refine Mix.p1 rfl rfl ?_ | refine Mix.s1 rfl rfl ?_);go_big_quiet_step (fail);refine wpQuiet_nil ?_)
 refine Mix.a1 rfl fun W10 hW10=>?_
 obtain ⟨k10,rfl⟩:=hW10
 go_wp2_with fail
 refine ⟨fun k hk=>by rw [(HS2.out k).1 hk];exact (((Ch.refl (fun b=>b=zb) W9).drewN k10).set (fun _=>rfl) _).block _ lg9 gz1,?_⟩
 repeat ((first | refine Mix.q1 rfl ?_ | refine Mix.p1 rfl rfl ?_ | refine Mix.s1 rfl rfl ?_);go_big_quiet_step (fail);refine wpQuiet_nil ?_)
 refine Mix.e1 rfl fun W11 hW11=>?_
 obtain ⟨k11,rfl⟩:=hW11
 go_wp2_with fail
 intro k12
 refine at_world fun W13 hW13=>?_
 have MX13:=hid (show Mem B w0 ([blkR w.heap.size 57 #[.int .i64 0,.int .u8 0,.bool false,.int .u64 0,.bool false,.bool false],blkR zb 57 #[.int .i64 σ.r.cl,.int .u8 σ.r.ph,.bool ac,.int .u64 hv,.bool dn,.bool dn]]++(σ'.L B++R)) W13 from by rw [hW13];exact ((((MX9.out.drewN k10).put (i:=1) rfl 4 (.bool dn)).drewN k11).put (i:=1) rfl 5 (.bool dn)).drewN k12)
 clear hW13 d13 lg9 y4 y5 g4 g5
 have Y13:=hid (MX13.out.each 1 _ rfl)
 have Z13:=hid (MX13.out.each 0 _ rfl)
 have y0:W13.cell? ⟨zb,0,none⟩=some (.int .i64 σ.r.cl):=Y13.out.cell 0
 have r0:W13.cell? ⟨w.heap.size,0,none⟩=some (.int .i64 0):=Z13.out.cell 0
 have q0:=Z13.out.free 0
 have y1:W13.cell? ⟨zb,1,none⟩=some (.int .u8 σ.r.ph):=Y13.out.cell 1
 have r1:W13.cell? ⟨w.heap.size,1,none⟩=some (.int .u8 0):=Z13.out.cell 1
 have q1:=Z13.out.free 1
 have y2:W13.cell? ⟨zb,2,none⟩=some (.bool ac):=Y13.out.cell 2
 have r2:W13.cell? ⟨w.heap.size,2,none⟩=some (.bool false):=Z13.out.cell 2
 have q2:=Z13.out.free 2
 have y3:W13.cell? ⟨zb,3,none⟩=some (.int .u64 hv):=Y13.out.cell 3
 have r3:W13.cell? ⟨w.heap.size,3,none⟩=some (.int .u64 0):=Z13.out.cell 3
 have q3:=Z13.out.free 3
 have y4:W13.cell? ⟨zb,4,none⟩=some (.bool dn):=Y13.out.cell 4
 have r4:W13.cell? ⟨w.heap.size,4,none⟩=some (.bool false):=Z13.out.cell 4
 have q4:=Z13.out.free 4
 have y5:W13.cell? ⟨zb,5,none⟩=some (.bool dn):=Y13.out.cell 5
 have r5:W13.cell? ⟨w.heap.size,5,none⟩=some (.bool false):=Z13.out.cell 5
 have q5:=Z13.out.free 5
 go_wp2_with fail
 refine at_world fun WZ hWZ=>?_
 have MXZ:=hid (show Mem B w0 ([blkR w.heap.size 57 #[.int .i64 σ.r.cl,.int .u8 σ.r.ph,.bool ac,.int .u64 hv,.bool dn,.bool dn],blkR zb 57 #[.int .i64 σ.r.cl,.int .u8 σ.r.ph,.bool ac,.int .u64 hv,.bool dn,.bool dn]]++(σ'.L B++R)) WZ from by rw [hWZ];exact ((((((MX13.out.put (i:=0) rfl 0 _).put (i:=0) rfl 1 _).put (i:=0) rfl 2 _).put (i:=0) rfl 3 _).put (i:=0) rfl 4 _).put (i:=0) rfl 5 _))
 clear hWZ y0 r0 q0 y1 r1 q1 y2 r2 q2 y3 r3 q3 y4 r4 q4 y5 r5 q5
 have BZ:=hid (MXZ.out.each 0 _ rfl)
 have t0:WZ.cell? ⟨w.heap.size,0,none⟩=some (.int .i64 σ.r.cl):=BZ.out.cell 0
 have t1:WZ.cell? ⟨w.heap.size,1,none⟩=some (.int .u8 σ.r.ph):=BZ.out.cell 1
 have t2:WZ.cell? ⟨w.heap.size,2,none⟩=some (.bool ac):=BZ.out.cell 2
 have t3:WZ.cell? ⟨w.heap.size,3,none⟩=some (.int .u64 hv):=BZ.out.cell 3
 have t4:WZ.cell? ⟨w.heap.size,4,none⟩=some (.bool dn):=BZ.out.cell 4
 have t5:WZ.cell? ⟨w.heap.size,5,none⟩=some (.bool dn):=BZ.out.cell 5
 refine bodyPost_ret (v:=.tuple #[.agg #[.int .i64 σ.r.cl,.int .u8 σ.r.ph,.bool ac,.int .u64 hv,.bool dn,.bool dn],.int .i64 0]) (by simp [results,Tryz.results15,go_sem,t0,t1,t2,t3,t4,t5]) rfl ⟨hv,σ',?_,MXZ.out.drop 2,HPV.out⟩
 rw [←HLA.out,←HLB.out,←HAC.out,←HDN.out]
 rfl
end
end Go.Proofs.YtjcdknhejcbpiaaGreat
