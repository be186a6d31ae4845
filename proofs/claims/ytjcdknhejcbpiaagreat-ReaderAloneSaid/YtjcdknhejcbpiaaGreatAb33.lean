/- Lemmas that the proof of the last text leans on; no condition. -/
import Derived.Test.YtjcdknhejcbpiaaGreatAb32
import Derived.Test.YtjcdknhejcbpiaaGreatAb07
set_option maxRecDepth 100000
set_option maxHeartbeats 4000000
namespace Go.Proofs.YtjcdknhejcbpiaaGreat
open Go.RowKit
set_option linter.unusedVariables false
set_option linter.unusedSimpArgs false
set_option linter.unusedSectionVars false
def seekV (ob zb rb:Nat):Value:=.func (.func 66) #[] #[.pointer (some ⟨ob,0,none⟩),.pointer (some ⟨zb,0,none⟩),.pointer (some ⟨rb,0,none⟩)]
theorem start_11 (g lb n j sg:Nat) (r:Rd) (l:List (Option Nat)) (x:Rv) (mv dv:Value) (ix cu:Int) (pos:Int) (w:World) (h:Blk w g 111 r.cells) (hs:r.sl=.slice (some ⟨lb,0,none⟩) n n) (hl:Blk w lb 140 (pinsA l)) (hop:r.op=⟨11,(j:Int),pos,0,0,0,⟨#[]⟩⟩) (hj:j < n) (hlj:l[j]?=some (some sg))
  (hsg:Blk w sg 144 #[.int .i64 x.num,.int .u64 x.at',.int .i64 x.h,.int .i64 x.b,.int .i64 x.r,.int .i64 x.l,mv,dv,.int .i64 ix,.int .i64 cu]) (h3:0≤pos) (hp:pos≤x.b) :
  Calls Tryz.prog 38 #[.pointer (some ⟨g,0,none⟩)] w (fun e w'=>∃ob zb rb,RdSet g { r with ph:=1,dv:=seekV ob zb rb } w (.tuple #[]) e w'∧Blk w' ob 26 (OpV.arr ⟨11,(j:Int),pos,0,0,0,⟨#[]⟩⟩)∧Blk w' zb 140 #[.pointer (some ⟨sg,0,none⟩)]∧Blk w' rb 45 #[.pointer (some ⟨g,0,none⟩)]∧w.heap.size≤rb∧rb < ob∧rb≠zb∧ob≠zb∧w.heap.size≤zb):=by
 have H:=hid h
 have HL:=hid hl
 have HS:=hid hs
 have HJ:=hid hlj
 have HSG:=hid hsg
 have hc:=h.cell
 have lg:=h.lt
 have d1:decide (j < n)=true:=decide_eq_true hj
 have d2:decide ((j:Int) < (n:Int))=true:=decide_eq_true (by omega)
 have HF:=hid (fm11 g lb n r (j:Int) pos HS.out (by omega) (by omega) h3)
 have o3:w.cell? ⟨g,3,none⟩=some (.int .u8 11):=(hc 3).trans (by simp [Rd.cells,hop])
 have o4:w.cell? ⟨g,4,none⟩=some (.int .i64 (j:Int)):=(hc 4).trans (by simp [Rd.cells,hop])
 have o5:w.cell? ⟨g,5,none⟩=some (.int .i64 pos):=(hc 5).trans (by simp [Rd.cells,hop])
 have o6:w.cell? ⟨g,6,none⟩=some (.int .i64 0):=(hc 6).trans (by simp [Rd.cells,hop])
 have o7:w.cell? ⟨g,7,none⟩=some (.int .u32 0):=(hc 7).trans (by simp [Rd.cells,hop])
 have o8:w.cell? ⟨g,8,none⟩=some (.int .u8 0):=(hc 8).trans (by simp [Rd.cells,hop])
 have o9:w.cell? ⟨g,9,none⟩=some (.string ⟨#[]⟩):=(hc 9).trans (by simp [Rd.cells,hop])
 clear h hc hop hl hs hlj hsg
 go_enter Tryz.func38,Tryz.ntmps38
 go_wp2_with fail
 refine calls_world fun W1 hW1=>?_
 have C1:=hid (show Ch (fun _=>False) w W1 from by rw [hW1];exact ((Ch.refl _ w).alloc _).alloc _)
 have R1:=hid (show Blk W1 w.heap.size 45 #[.pointer (some ⟨g,0,none⟩)] from by rw [hW1];exact (Blk.new w _ _).alloc _)
 obtain ⟨ob,hob⟩:∃x,x=w.heap.size+1:=⟨_,rfl⟩
 have T1:=hid (show Blk W1 ob 26 #[.int .u8 11,.int .i64 (j:Int),.int .i64 pos,.int .i64 0,.int .u32 0,.int .u8 0,.string ⟨#[]⟩] from by rw [hW1,hob];have t:=Blk.new (w.alloc (.cells #[.pointer (some ⟨g,0,none⟩)] 45)) 26 #[.int .u8 11,.int .i64 (j:Int),.int .i64 pos,.int .i64 0,.int .u32 0,.int .u8 0,.string ⟨#[]⟩];simpa using t)
 have lob:=hid (show w.heap.size < ob from by omega)
 rw [←hob]
 clear hW1 hob o3 o4 o5 o6 o7 o8 o9
 have hck:=check_11 g lb n j sg r l x mv dv ix cu W1 (C1.out.blk H.out id) HS.out (C1.out.blk HL.out id) hj HJ.out (C1.out.blk HSG.out id) pos HF.out
 rw [if_neg (by omega)] at hck
 refine hck.mono ?_
 clear hck
 rintro e w2 ⟨rfl,hc⟩
 have C2:=hid (C1.out.trans hc (fun _ _ h=>h))
 have R2:=hid (hc.blk R1.out id)
 have T2:=hid (hc.blk T1.out id)
 have r0:w2.cell? ⟨w.heap.size,0,none⟩=some (.pointer (some ⟨g,0,none⟩)):=R2.out.cell 0
 have t0:w2.cell? ⟨ob,0,none⟩=some (.int .u8 11):=T2.out.cell 0
 clear hc
 go_wp2_with fail
 obtain ⟨S,hS⟩:∃S:Nat→Prop,∀k,S k↔k < w2.heap.size:=⟨_,fun _=>Iff.rfl⟩
 have hSp1:Mix.Has S w.heap.size:=(hS _).2 R2.out.lt
 have hSp2:Mix.Has S ob:=(hS _).2 T2.out.lt
 have hSp3:Mix.Has S g:=(hS _).2 (C2.out.blk H.out id).lt
 have hSp4:Mix.Has S lb:=(hS _).2 (C2.out.blk HL.out id).lt
 have HSS:=hid hS
 clear hS
 have t1:w2.cell? ⟨ob,1,none⟩=some (.int .i64 (j:Int)):=T2.out.cell 1
 have a2:w2.cell? ⟨g,2,none⟩=some (.slice (some ⟨lb,0,none⟩) n n):=((C2.out.blk H.out (fun e=>e)).cell 2).trans (by rw [←HS.out];rfl)
 have lj:w2.cell? ⟨lb,j,none⟩=some (.pointer (some ⟨sg,0,none⟩)):=((C2.out.blk HL.out (fun e=>e)).cell j).trans (pinsA_at (o:=some sg) HJ.out)
 refine Mix.wp_region_mix S (fun i=>([4,1,1,4,1,4,1,4,3,2]:List Nat).getD i 0) [0,1,2,3,4,5,6,7,8,9] (by kernel_rfl) (by kernel_rfl) ?_
 repeat ((first | refine Mix.q1 rfl ?_ | refine Mix.p1 rfl rfl ?_ | refine Mix.s1 rfl rfl ?_);go_big_quiet_step (fail);refine wpQuiet_nil ?_)
 refine Mix.a1 rfl fun W3 hW3=>?_
 obtain ⟨k3,rfl⟩:=hW3
 go_wp2_with fail
 refine ⟨fun k hk=>Below.heap_alloc _ _ k ((HSS.out k).1 hk),Mix.mix_world fun W4 hW4=>?_⟩
 have C4:=hid (show Ch (fun _=>False) w W4 from by rw [hW4];first | exact (C2.out.drewN k3).alloc _ | exact C2.out.trans (Ch.push rfl rfl rfl rfl) (fun _ _ h=>h))
 have R4:=hid (show Blk W4 w.heap.size 45 #[.pointer (some ⟨g,0,none⟩)] from by rw [hW4];exact (R2.out.drewN k3).alloc _)
 have T4:=hid (show Blk W4 ob 26 #[.int .u8 11,.int .i64 (j:Int),.int .i64 pos,.int .i64 0,.int .u32 0,.int .u8 0,.string ⟨#[]⟩] from by rw [hW4];exact (T2.out.drewN k3).alloc _)
 obtain ⟨zb,hzb⟩:∃z,z=w2.heap.size:=⟨_,rfl⟩
 have Z4:=hid (show Blk W4 zb 140 #[.pointer none] from by rw [hW4,hzb];first | exact Blk.new (w2.drewN k3) _ _ | exact Blk.push rfl)
 have nz1:=hid (show w.heap.size≠zb from by have:=R2.out.lt;omega)
 have nz2:=hid (show ob≠zb from by have:=T2.out.lt;omega)
 have nz3:=hid (show w.heap.size≤zb from by have:=R2.out.lt;omega)
 rw [←hzb]
 clear hW4 hzb r0 t0 t1 a2 lj
 have z0:W4.cell? ⟨zb,0,none⟩=some (.pointer none):=Z4.out.cell 0
 have z1:=Z4.out.free 0
 repeat ((first | refine Mix.q1 rfl ?_ | refine Mix.p1 rfl rfl ?_ | refine Mix.s1 rfl rfl ?_);go_big_quiet_step (fail);refine wpQuiet_nil ?_)
 refine Mix.e1 rfl fun W5 hW5=>?_
 obtain ⟨k5,rfl⟩:=hW5
 go_wp2_with fail
 intro k6
 refine at_world fun W7 hW7=>?_
 have C7:=hid (show Ch (fun _=>False) w W7 from by rw [hW7];exact ((C4.out.drewN k5).set (fun h=>absurd h (by have:=nz3.out;omega)) _).drewN k6)
 have R7:=hid (show Blk W7 w.heap.size 45 #[.pointer (some ⟨g,0,none⟩)] from by rw [hW7];exact ((R4.out.drewN k5).far nz1.out _).drewN k6)
 have T7:=hid (show Blk W7 ob 26 #[.int .u8 11,.int .i64 (j:Int),.int .i64 pos,.int .i64 0,.int .u32 0,.int .u8 0,.string ⟨#[]⟩] from by rw [hW7];exact ((T4.out.drewN k5).far nz2.out _).drewN k6)
 have Z7:=hid (show Blk W7 zb 140 #[.pointer (some ⟨sg,0,none⟩)] from by rw [hW7];exact ((Z4.out.drewN k5).put 0 _).drewN k6)
 clear hW7 z0 z1
 have G7:=hid (C7.out.blk H.out id)
 have SG7:=hid (C7.out.blk HSG.out id)
 have r0:W7.cell? ⟨w.heap.size,0,none⟩=some (.pointer (some ⟨g,0,none⟩)):=R7.out.cell 0
 have t0:W7.cell? ⟨ob,0,none⟩=some (.int .u8 11):=T7.out.cell 0
 have t2:W7.cell? ⟨ob,2,none⟩=some (.int .i64 pos):=T7.out.cell 2
 have t3:W7.cell? ⟨ob,3,none⟩=some (.int .i64 0):=T7.out.cell 3
 have z0:W7.cell? ⟨zb,0,none⟩=some (.pointer (some ⟨sg,0,none⟩)):=Z7.out.cell 0
 have s3:W7.cell? ⟨sg,3,none⟩=some (.int .i64 x.b):=SG7.out.cell 3
 have s4:W7.cell? ⟨sg,4,none⟩=some (.int .i64 x.r):=SG7.out.cell 4
 have s5:W7.cell? ⟨sg,5,none⟩=some (.int .i64 x.l):=SG7.out.cell 5
 have s9:W7.cell? ⟨sg,9,none⟩=some (.int .i64 cu):=SG7.out.cell 9
 clear s3 s4 s5 s9 hp
 go_wp2_with fail
 refine (rthen_any g r 1 _ _ _ W7 G7.out).mono ?_
 rintro e w3 ⟨rfl,hb,hc⟩
 go_wp2_with fail
 go_end0
 exact ⟨ob,zb,w.heap.size,⟨rfl,hb,(C7.out.mono (fun _ _ e=>e.elim)).trans hc (fun _ _ h=>h)⟩,hc.blk T7.out (fun e=>by have:=lob.out;omega),hc.blk Z7.out (fun e=>by have:=nz3.out;omega),hc.blk R7.out (fun e=>by omega),Nat.le_refl _,lob.out,nz1.out,nz2.out,nz3.out⟩
theorem start_12 (g lb n j sg:Nat) (r:Rd) (l:List (Option Nat)) (x:Rv) (mv dv:Value) (ix cu:Int) (num:Int) (w:World) (h:Blk w g 111 r.cells) (hs:r.sl=.slice (some ⟨lb,0,none⟩) n n) (hl:Blk w lb 140 (pinsA l)) (hop:r.op=⟨12,(j:Int),0,num,0,0,⟨#[]⟩⟩) (hj:j < n) (hlj:l[j]?=some (some sg))
  (hsg:Blk w sg 144 #[.int .i64 x.num,.int .u64 x.at',.int .i64 x.h,.int .i64 x.b,.int .i64 x.r,.int .i64 x.l,mv,dv,.int .i64 ix,.int .i64 cu]) (h4:0≤num) (hb0:x.b≤1000000) (hcu:0≤cu∧cu≤x.b) :
  Calls Tryz.prog 38 #[.pointer (some ⟨g,0,none⟩)] w (RdSet g (Rd.read g r x cu (min num (x.b - cu))) w (.tuple #[])):=by
 have H:=hid h
 have HL:=hid hl
 have HS:=hid hs
 have HJ:=hid hlj
 have HSG:=hid hsg
 have hc:=h.cell
 have lg:=h.lt
 have d1:decide (j < n)=true:=decide_eq_true hj
 have d2:decide ((j:Int) < (n:Int))=true:=decide_eq_true (by omega)
 have HF:=hid (fm12 g lb n r (j:Int) num HS.out (by omega) (by omega) h4)
 have o3:w.cell? ⟨g,3,none⟩=some (.int .u8 12):=(hc 3).trans (by simp [Rd.cells,hop])
 have o4:w.cell? ⟨g,4,none⟩=some (.int .i64 (j:Int)):=(hc 4).trans (by simp [Rd.cells,hop])
 have o5:w.cell? ⟨g,5,none⟩=some (.int .i64 0):=(hc 5).trans (by simp [Rd.cells,hop])
 have o6:w.cell? ⟨g,6,none⟩=some (.int .i64 num):=(hc 6).trans (by simp [Rd.cells,hop])
 have o7:w.cell? ⟨g,7,none⟩=some (.int .u32 0):=(hc 7).trans (by simp [Rd.cells,hop])
 have o8:w.cell? ⟨g,8,none⟩=some (.int .u8 0):=(hc 8).trans (by simp [Rd.cells,hop])
 have o9:w.cell? ⟨g,9,none⟩=some (.string ⟨#[]⟩):=(hc 9).trans (by simp [Rd.cells,hop])
 clear h hc hop hl hs hlj hsg
 go_enter Tryz.func38,Tryz.ntmps38
 go_wp2_with fail
 refine calls_world fun W1 hW1=>?_
 have C1:=hid (show Ch (fun _=>False) w W1 from by rw [hW1];exact ((Ch.refl _ w).alloc _).alloc _)
 have R1:=hid (show Blk W1 w.heap.size 45 #[.pointer (some ⟨g,0,none⟩)] from by rw [hW1];exact (Blk.new w _ _).alloc _)
 obtain ⟨ob,hob⟩:∃x,x=w.heap.size+1:=⟨_,rfl⟩
 have T1:=hid (show Blk W1 ob 26 #[.int .u8 12,.int .i64 (j:Int),.int .i64 0,.int .i64 num,.int .u32 0,.int .u8 0,.string ⟨#[]⟩] from by rw [hW1,hob];have t:=Blk.new (w.alloc (.cells #[.pointer (some ⟨g,0,none⟩)] 45)) 26 #[.int .u8 12,.int .i64 (j:Int),.int .i64 0,.int .i64 num,.int .u32 0,.int .u8 0,.string ⟨#[]⟩];simpa using t)
 have lob:=hid (show w.heap.size < ob from by omega)
 rw [←hob]
 clear hW1 hob o3 o4 o5 o6 o7 o8 o9
 have hck:=check_held g lb n j sg r ⟨12,(j:Int),0,num,0,0,⟨#[]⟩⟩ l x mv dv ix cu W1 (C1.out.blk H.out id) HS.out (C1.out.blk HL.out id) rfl hj HJ.out (C1.out.blk HSG.out id) HF.out (.inr (.inl rfl))
 refine hck.mono ?_
 clear hck
 rintro e w2 ⟨rfl,hc⟩
 have C2:=hid (C1.out.trans hc (fun _ _ h=>h))
 have R2:=hid (hc.blk R1.out id)
 have T2:=hid (hc.blk T1.out id)
 have r0:w2.cell? ⟨w.heap.size,0,none⟩=some (.pointer (some ⟨g,0,none⟩)):=R2.out.cell 0
 have t0:w2.cell? ⟨ob,0,none⟩=some (.int .u8 12):=T2.out.cell 0
 clear hc
 go_wp2_with fail
 obtain ⟨S,hS⟩:∃S:Nat→Prop,∀k,S k↔k < w2.heap.size:=⟨_,fun _=>Iff.rfl⟩
 have hSp1:Mix.Has S w.heap.size:=(hS _).2 R2.out.lt
 have hSp2:Mix.Has S ob:=(hS _).2 T2.out.lt
 have hSp3:Mix.Has S g:=(hS _).2 (C2.out.blk H.out id).lt
 have hSp4:Mix.Has S lb:=(hS _).2 (C2.out.blk HL.out id).lt
 have HSS:=hid hS
 clear hS
 have t1:w2.cell? ⟨ob,1,none⟩=some (.int .i64 (j:Int)):=T2.out.cell 1
 have a2:w2.cell? ⟨g,2,none⟩=some (.slice (some ⟨lb,0,none⟩) n n):=((C2.out.blk H.out (fun e=>e)).cell 2).trans (by rw [←HS.out];rfl)
 have lj:w2.cell? ⟨lb,j,none⟩=some (.pointer (some ⟨sg,0,none⟩)):=((C2.out.blk HL.out (fun e=>e)).cell j).trans (pinsA_at (o:=some sg) HJ.out)
 refine Mix.wp_region_mix S (fun i=>([4,1,1,4,1,4,1,4,3,2]:List Nat).getD i 0) [0,1,2,3,4,5,6,7,8,9] (by kernel_rfl) (by kernel_rfl) ?_
 repeat ((first | refine Mix.q1 rfl ?_ | refine Mix.p1 rfl rfl ?_ | refine Mix.s1 rfl rfl ?_);go_big_quiet_step (fail);refine wpQuiet_nil ?_)
 refine Mix.a1 rfl fun W3 hW3=>?_
 obtain ⟨k3,rfl⟩:=hW3
 go_wp2_with fail
 refine ⟨fun k hk=>Below.heap_alloc _ _ k ((HSS.out k).1 hk),Mix.mix_world fun W4 hW4=>?_⟩
 have C4:=hid (show Ch (fun _=>False) w W4 from by rw [hW4];first | exact (C2.out.drewN k3).alloc _ | exact C2.out.trans (Ch.push rfl rfl rfl rfl) (fun _ _ h=>h))
 have R4:=hid (show Blk W4 w.heap.size 45 #[.pointer (some ⟨g,0,none⟩)] from by rw [hW4];exact (R2.out.drewN k3).alloc _)
 have T4:=hid (show Blk W4 ob 26 #[.int .u8 12,.int .i64 (j:Int),.int .i64 0,.int .i64 num,.int .u32 0,.int .u8 0,.string ⟨#[]⟩] from by rw [hW4];exact (T2.out.drewN k3).alloc _)
 obtain ⟨zb,hzb⟩:∃z,z=w2.heap.size:=⟨_,rfl⟩
 have Z4:=hid (show Blk W4 zb 140 #[.pointer none] from by rw [hW4,hzb];first | exact Blk.new (w2.drewN k3) _ _ | exact Blk.push rfl)
 have nz1:=hid (show w.heap.size≠zb from by have:=R2.out.lt;omega)
 have nz2:=hid (show ob≠zb from by have:=T2.out.lt;omega)
 have nz3:=hid (show w.heap.size≤zb from by have:=R2.out.lt;omega)
 rw [←hzb]
 clear hW4 hzb r0 t0 t1 a2 lj
 have z0:W4.cell? ⟨zb,0,none⟩=some (.pointer none):=Z4.out.cell 0
 have z1:=Z4.out.free 0
 repeat ((first | refine Mix.q1 rfl ?_ | refine Mix.p1 rfl rfl ?_ | refine Mix.s1 rfl rfl ?_);go_big_quiet_step (fail);refine wpQuiet_nil ?_)
 refine Mix.e1 rfl fun W5 hW5=>?_
 obtain ⟨k5,rfl⟩:=hW5
 go_wp2_with fail
 intro k6
 refine at_world fun W7 hW7=>?_
 have C7:=hid (show Ch (fun _=>False) w W7 from by rw [hW7];exact ((C4.out.drewN k5).set (fun h=>absurd h (by have:=nz3.out;omega)) _).drewN k6)
 have R7:=hid (show Blk W7 w.heap.size 45 #[.pointer (some ⟨g,0,none⟩)] from by rw [hW7];exact ((R4.out.drewN k5).far nz1.out _).drewN k6)
 have T7:=hid (show Blk W7 ob 26 #[.int .u8 12,.int .i64 (j:Int),.int .i64 0,.int .i64 num,.int .u32 0,.int .u8 0,.string ⟨#[]⟩] from by rw [hW7];exact ((T4.out.drewN k5).far nz2.out _).drewN k6)
 have Z7:=hid (show Blk W7 zb 140 #[.pointer (some ⟨sg,0,none⟩)] from by rw [hW7];exact ((Z4.out.drewN k5).put 0 _).drewN k6)
 clear hW7 z0 z1
 have G7:=hid (C7.out.blk H.out id)
 have SG7:=hid (C7.out.blk HSG.out id)
 have r0:W7.cell? ⟨w.heap.size,0,none⟩=some (.pointer (some ⟨g,0,none⟩)):=R7.out.cell 0
 have t0:W7.cell? ⟨ob,0,none⟩=some (.int .u8 12):=T7.out.cell 0
 have t2:W7.cell? ⟨ob,2,none⟩=some (.int .i64 0):=T7.out.cell 2
 have t3:W7.cell? ⟨ob,3,none⟩=some (.int .i64 num):=T7.out.cell 3
 have z0:W7.cell? ⟨zb,0,none⟩=some (.pointer (some ⟨sg,0,none⟩)):=Z7.out.cell 0
 have s3:W7.cell? ⟨sg,3,none⟩=some (.int .i64 x.b):=SG7.out.cell 3
 have s4:W7.cell? ⟨sg,4,none⟩=some (.int .i64 x.r):=SG7.out.cell 4
 have s5:W7.cell? ⟨sg,5,none⟩=some (.int .i64 x.l):=SG7.out.cell 5
 have s9:W7.cell? ⟨sg,9,none⟩=some (.int .i64 cu):=SG7.out.cell 9
 obtain ⟨hu0,hu1⟩:=hcu
 obtain ⟨nn,hnn⟩:∃nn:Nat,num=(nn:Int):=⟨num.toNat,by omega⟩
 obtain ⟨bn,hbn⟩:∃bn:Nat,x.b - cu=(bn:Int):=⟨(x.b - cu).toNat,by omega⟩
 have hmin:=fun W=>run_min (P:=Tryz.prog) #[3,3] 3 nn bn W
 rw [←hnn,←hbn,show ((min nn bn:Nat):Int)=min num (x.b - cu) by omega] at hmin
 obtain ⟨dd,hdd⟩:∃dd,dd=min num (x.b - cu):=⟨_,rfl⟩
 rw [←hdd] at hmin
 have HDD:=hid hdd
 clear hnn hbn hdd
 go_wp2_with fail
 refine Mix.wp_region_mix (fun _=>True) (fun i=>([0,0,0,0,0,0,0,0,0,0,0,0,0,0,0,0,0,0,0,0,0,2]:List Nat).getD i 0) [0,1,2,3,4,5,6,7,8,9,10,11,12,13,14,15,16,17,18,19,20,21] (by kernel_rfl) (by kernel_rfl) ?_
 repeat ((first | refine Mix.q1 rfl ?_ | refine Mix.p1 rfl rfl ?_ | refine Mix.s1 rfl rfl ?_);go_big_quiet_step (fail);refine wpQuiet_nil ?_)
 refine Mix.e1 rfl fun W8 hW8=>?_
 obtain ⟨k8,rfl⟩:=hW8
 go_wp2_with fail
 refine calls_world fun W8 hW8=>?_
 have C8:=hid (show Ch (fun _=>False) w W8 from by rw [hW8];exact C7.out.drewN k8)
 have G8:=hid (show Blk W8 g 111 r.cells from by rw [hW8];exact G7.out.drewN k8)
 clear hW8
 have SG8:=hid (show Blk W8 sg 144 _ from C8.out.blk HSG.out id)
 have T:=rread_any g sg r x mv dv ix cu cu dd W8 G8.out SG8.out
 clear s3 s4 s5 s9 hmin
 refine T.mono ?_
 rintro e w3 ⟨rfl,hb,hc⟩
 go_wp2_with fail
 intro k9
 go_wp2_with fail
 go_end0
 exact ⟨rfl,HDD.out ▸ hb.drewN k9,((C8.out.mono (fun _ _ e=>e.elim)).trans hc (fun _ _ h=>h)).drewN k9⟩
end Go.Proofs.YtjcdknhejcbpiaaGreat
